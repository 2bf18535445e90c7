/- Behind any loss of power, at any act, each sector holds something that was put there whole, or is noughts, or is told to be torn; and what was flushed, and not written since, is as it was. -/
import Derived.Test.YthebdiboijhjmaaDoorRows
import Derived.Test.YthebdiboijhjmaaDoorFwP
import Derived.Test.YthebdiboijhjmaaDoorPGuardWhole
import Derived.Test.YthebdiboijhjmaaDoorCards
import Derived.Test.YthebdiboijhjmaaDoorTie
import Derived.ProofKit
import Derived.LaidMore
import Derived.Lay
import Derived.OpenShut
import Derived.Stop.Joined
import Derived.SevenTiedAt
namespace Go.Proofs.YthebdiboijhjmaaDoor
set_option linter.all false
open Go Go.RowKit Go.ChangeShapes Go.WideShapes Go.ChangeAt Go.Fw
open Go.ChangeMaps (open_string shut_string)
set_option linter.unusedVariables false
theorem dec_law10_Op : Dec Tryd.prog 59 (fun _ cs (x : law10_Op) => cs = law10_Op.cells x) (fun x => ((Lit.int .i64 x.Kind).wf = true) ∧ ((Lit.int .i64 x.I).wf = true) ∧ (True)) (fun x => (([] : List Nat) ++ ([] : List Nat) ++ [x.S.size])) := by
  intro H enc w base spare held fuel cs x h
  obtain ⟨xs, n, _, rfl, hl, hlen, hf⟩ := DataW.trod_struct Tryd.underlying59 h
  obtain ⟨y0, e0⟩ := get_some hlen 0 (by decide)
  have g0 := hf 0 _ rfl
  rw [e0] at g0
  replace g0 : DataW.trod enc Tryd.prog w base spare held n 3 ((cs.drop 0).take (Tryd.prog.cellsOf 3)) = some y0 := g0
  rw [show Tryd.prog.cellsOf 3 = 1 by kernel_rfl] at g0
  obtain ⟨a0, F0, w0, n0⟩ := (dec_int Tryd.underlying3) H enc w base spare held n _ _ g0
  obtain ⟨y1, e1⟩ := get_some hlen 1 (by decide)
  have g1 := hf 1 _ rfl
  rw [e1] at g1
  replace g1 : DataW.trod enc Tryd.prog w base spare held n 3 ((cs.drop 1).take (Tryd.prog.cellsOf 3)) = some y1 := g1
  rw [show Tryd.prog.cellsOf 3 = 1 by kernel_rfl] at g1
  obtain ⟨a1, F1, w1, n1⟩ := (dec_int Tryd.underlying3) H enc w base spare held n _ _ g1
  obtain ⟨y2, e2⟩ := get_some hlen 2 (by decide)
  have g2 := hf 2 _ rfl
  rw [e2] at g2
  replace g2 : DataW.trod enc Tryd.prog w base spare held n 9 ((cs.drop 2).take (Tryd.prog.cellsOf 9)) = some y2 := g2
  rw [show Tryd.prog.cellsOf 9 = 1 by kernel_rfl] at g2
  obtain ⟨a2, F2, w2, n2⟩ := (dec_str Tryd.underlying9) H enc w base spare held n _ _ g2
  have hc : cs = (cparts [1, 1, 1] 0 cs).flatten := cells_parts [1, 1, 1] 0 cs (by rw [hl]; kernel_rfl)
  rw [show cparts [1, 1, 1] 0 cs = [(cs.drop 0).take 1, (cs.drop 1).take 1, (cs.drop 2).take 1] from rfl, F0, F1, F2] at hc
  refine ⟨⟨a0, a1, a2⟩, hc.trans rfl, ⟨w0, w1, w2⟩, fun R hR m hm => ?_⟩
  simp only [List.mem_append, or_assoc] at hm
  rcases hm with hm | hm | hm
  · exact n0 R (weights_agg Tryd.underlying59 hR (j := 0) rfl e0) m hm
  · exact n1 R (weights_agg Tryd.underlying59 hR (j := 1) rfl e1) m hm
  · exact n2 R (weights_agg Tryd.underlying59 hR (j := 2) rfl e2) m hm
theorem dec_disk_Fall : Dec Tryd.prog 55 (fun _ cs (x : disk_Fall) => cs = disk_Fall.cells x) (fun x => ((Lit.int .u64 x.Keep).wf = true) ∧ ((Lit.int .i64 x.Tear).wf = true)) (fun x => (([] : List Nat) ++ ([] : List Nat))) := by
  intro H enc w base spare held fuel cs x h
  obtain ⟨xs, n, _, rfl, hl, hlen, hf⟩ := DataW.trod_struct Tryd.underlying55 h
  obtain ⟨y0, e0⟩ := get_some hlen 0 (by decide)
  have g0 := hf 0 _ rfl
  rw [e0] at g0
  replace g0 : DataW.trod enc Tryd.prog w base spare held n 53 ((cs.drop 0).take (Tryd.prog.cellsOf 53)) = some y0 := g0
  rw [show Tryd.prog.cellsOf 53 = 1 by kernel_rfl] at g0
  obtain ⟨a0, F0, w0, n0⟩ := (dec_int Tryd.underlying53) H enc w base spare held n _ _ g0
  obtain ⟨y1, e1⟩ := get_some hlen 1 (by decide)
  have g1 := hf 1 _ rfl
  rw [e1] at g1
  replace g1 : DataW.trod enc Tryd.prog w base spare held n 3 ((cs.drop 1).take (Tryd.prog.cellsOf 3)) = some y1 := g1
  rw [show Tryd.prog.cellsOf 3 = 1 by kernel_rfl] at g1
  obtain ⟨a1, F1, w1, n1⟩ := (dec_int Tryd.underlying3) H enc w base spare held n _ _ g1
  have hc : cs = (cparts [1, 1] 0 cs).flatten := cells_parts [1, 1] 0 cs (by rw [hl]; kernel_rfl)
  rw [show cparts [1, 1] 0 cs = [(cs.drop 0).take 1, (cs.drop 1).take 1] from rfl, F0, F1] at hc
  refine ⟨⟨a0, a1⟩, hc.trans rfl, ⟨w0, w1⟩, fun R hR m hm => ?_⟩
  simp only [List.mem_append, or_assoc] at hm
  rcases hm with hm | hm
  · exact n0 R (weights_agg Tryd.underlying55 hR (j := 0) rfl e0) m hm
  · exact n1 R (weights_agg Tryd.underlying55 hR (j := 1) rfl e1) m hm
theorem guardWhole_own : ownKnob Tryd.prog.godebug = none := by kernel_rfl
theorem guardWhole_laidOut : laidOutB Tryd.prog = true := by kernel_rfl
set_option maxRecDepth 100000 in
theorem guardWhole_lifted (os : Os) (started : os.Started) (H : Type) (enc : TypeId × Value → H) :
    ReturnsInHanded {} Tryd.checked os 7 .any (fun w args => (Rows.guardWholeSpec.pre enc Tryd.prog Tryd.f7 Rows.guardWholeRow.domain false w args ∧ laidMetH Tryd.prog Rows.guardWholeRow.laid w) ∧ sizedMet enc Tryd.prog Tryd.f7 (OpenSpec.ofChange Rows.guardWholeSpec) false w args) (Rows.guardWholeSpec.post enc Tryd.prog Tryd.f7 false true false false) := by
  refine returnsInHanded_of_change_and (C := Tryd.checked) (X := fun w _ => laidMetH Tryd.prog Rows.guardWholeRow.laid w) (fun _ _ _ hh h => h.of_heap hh) guardWhole_own started (by kernel_rfl) Tryd.func7
    (ChangeSpec.witness_shaped (enc := enc) (C := Tryd.checked) (os := os) (X := fun w _ => laidMetH Tryd.prog Rows.guardWholeRow.laid w) false (World.laidAll Tryd.prog os Rows.guardWholeRow.laid) #[.slice none 0 0, .int .i64 0, .agg #[.int .u64 0, .int .i64 0]] 8 (World.laidAll_os _ _ _)
      (World.shaped_of_ZipB (by kernel_rfl) (by kernel_rfl)) (by kernel_rfl) (by kernel_rfl) (by kernel_rfl)
      (by rw [MakeChecks.laidMetH_plain _ _ _ (by kernel_rfl)]; exact laidMet_laidAll _ (by kernel_rfl) (by kernel_rfl))) ?_
  intro W base args ds gs before hval0 hW hcnd hsz0 _ _
  have hsz : (DataW.weightsEach Tryd.prog (Tryd.f7.params.toList ++ Rows.guardWholeSpec.plain.varTypes Tryd.prog) (ds ++ gs)).all (· ≤ reachBytes) = true := hsz0
  have hval : ∀ (j : Nat) t v, Tryd.f7.params[j]? = some t → args[j]? = some v → Value.okWide Tryd.prog W .any base t v := hval0
  have hW' := hW
  obtain ⟨p, q, hA0, hV, rfl, hfz, hnd⟩ := hW
  have hA : DataW.TrodAll enc Tryd.prog W 0 (fun _ => true) true Tryd.f7.params.toList args.toList ds p := hA0
  rw [Tryd.params7] at hA hval hsz
  obtain ⟨v0, vs0, d0, ds0, p0, q0, hargs, rfl, rfl, h0, r0⟩ := trodAll_cons hA
  obtain ⟨v1, vs1, d1, ds1, p1, q1, rfl, rfl, rfl, h1, r1⟩ := trodAll_cons r0
  obtain ⟨v2, vs2, d2, ds2, p2, q2, rfl, rfl, rfl, h2, r2⟩ := trodAll_cons r1
  obtain ⟨rfl, rfl, rfl⟩ := trodAll_nil r2
  obtain rfl : args = #[v0, v1, v2] := by cases args; simp_all
  obtain ⟨rfl, rfl⟩ := trodVars_none hV
  have k0 := h0
  have lt0 : ∀ x ∈ p0, x.block < W.heap.size := by obtain ⟨m, hm⟩ := k0; exact DataW.trod_lt m _ _ _ hm
  obtain ⟨z0, len0, cap0, hv0⟩ := okWide_slice Tryd.underlying52 (hval 0 52 v0 rfl rfl)
  obtain ⟨fuel0, hf0⟩ := h0
  obtain ⟨a0, F0, w0, n0⟩ := (dec_slice e_law10_Op dec_law10_Op Tryd.underlying52 (by kernel_rfl)) H enc W 0 _ _ fuel0 _ _ hf0
  obtain ⟨b0, c0, F0, R0⟩ := F0
  obtain rfl : v0 = .slice b0 a0.length c0 := by subst hv0; exact (List.cons.inj F0).1
  have hz0 := sized_dec (N := (a0.length * Tryd.prog.bytesOf 59 :: a0.flatMap fun y => (([] : List Nat) ++ ([] : List Nat) ++ [y.S.size]))) hsz (j := 0) (t := 52) rfl rfl n0
  have k1 := h1
  have lt1 : ∀ x ∈ p1, x.block < W.heap.size := by obtain ⟨m, hm⟩ := k1; exact DataW.trod_lt m _ _ _ hm
  obtain ⟨z1, hv1⟩ := okWide_int Tryd.underlying3 (hval 1 3 v1 rfl rfl)
  obtain ⟨fuel1, hf1⟩ := h1
  obtain ⟨a1, F1, w1, n1⟩ := (dec_int Tryd.underlying3) H enc W 0 _ _ fuel1 _ _ hf1
  obtain rfl : v1 = .int .i64 a1 := by subst hv1; exact (List.cons.inj F1).1
  have hz1 := sized_dec (N := ([] : List Nat)) hsz (j := 1) (t := 3) rfl rfl n1
  have k2 := h2
  have lt2 : ∀ x ∈ p2, x.block < W.heap.size := by obtain ⟨m, hm⟩ := k2; exact DataW.trod_lt m _ _ _ hm
  obtain ⟨cs2, hv2, _⟩ := okWide_struct Tryd.underlying55 (hval 2 55 v2 rfl rfl)
  obtain ⟨fuel2, hf2⟩ := h2
  obtain ⟨a2, F2, w2, n2⟩ := dec_disk_Fall H enc W 0 _ _ fuel2 _ _ hf2
  obtain rfl : v2 = .agg #[.int .u64 a2.Keep, .int .i64 a2.Tear] := by subst hv2; exact congrArg Value.agg (arr_of F2)
  have hz2 := sized_dec (N := (([] : List Nat) ++ ([] : List Nat))) hsz (j := 2) (t := 55) rfl rfl n2
  clear hA0 hval0 hsz0 hsz hval
  have hp := pure_GuardWhole a0 a1 a2 w0 hz0 w1 hz1 w2 hz2
  have tr := c_law10_GuardWhole (Go.Fw.hp W) a0 a1 a2 b0 c0 true hp R0
  refine (calls_of_tr tr (by first | (rintro r H ⟨rfl, rfl⟩; exact ⟨rfl, _, _, rfl, Hl.sub_refl _⟩) | (rintro r H ⟨J, rfl, rfl, hJ⟩; exact ⟨rfl, _, _, rfl, hJ⟩))).mono fun e W' ⟨he, bel⟩ => ?_
  subst he
  exact ⟨_, rfl, _, _, _, [], _, [], hW', trodAll_mk1 (shut_bool Tryd.underlying4 _), (trodAll_cons_mk (Below.trod guardWhole_laidOut (by kernel_rfl) (of_decide_eq_true (by kernel_rfl)) k0 bel lt0) (trodAll_cons_mk (Below.trod guardWhole_laidOut (by kernel_rfl) (of_decide_eq_true (by kernel_rfl)) k1 bel lt1) (trodAll_cons_mk (Below.trod guardWhole_laidOut (by kernel_rfl) (of_decide_eq_true (by kernel_rfl)) k2 bel lt2) trodAll_mk0))), rfl, bel.frame _, (fun h => by cases h)⟩
theorem guardWhole_holds : Rows.GuardWholeSaid :=
  OpenClaim.holds_of_wide 7 Tryd.f7 rfl rfl rfl rfl rfl rfl rfl ⟨rfl, rfl, rfl, rfl, rfl⟩ rfl rfl rfl rfl rfl (by kernel_rfl) Tryd.func7 (by kernel_rfl)
    (of_decide_eq_true (by kernel_rfl)) (by unfold Func.isWrapper; first | (rw [if_pos (by decide +kernel)]; kernel_rfl) | (rw [if_neg (by decide +kernel)]; exact ⟨rfl, rfl⟩))
    (fun os started H enc _ => guardWhole_lifted os started H enc)
theorem guardWhole_card_holds : Rows.GuardWholeCardSaid :=
  Claim7.holds_tied_plain_at .later [] [.data, .pinned] true (true, "8d9c4adcfd60411d04e30f37ae115d0918696fd589138f2a06cad16238759385") false
    guardWhole_holds (fun _ h => by cases h) (by kernel_rfl) (fun _ h => by cases h) guardWhole_row_tie rfl ⟨rfl, rfl⟩ (by kernel_rfl) rfl
    (fun f fn hf hfn => by
      obtain rfl : f = 7 := Option.some.inj ((show Tryd.prog.funcNamed "chartulary/chartularylaw10.GuardWhole" = some 7 by kernel_rfl).symm.trans hf) |>.symm
      obtain rfl : fn = Tryd.f7 := (Option.some.inj (Tryd.func7.symm.trans hfn)).symm
      exact ⟨by kernel_rfl, fun j t ht => by
        rw [Tryd.params7] at ht
        have hm : t ∈ [52, 3, 55] := by simpa using Array.mem_of_getElem? ht
        have hall : ([52, 3, 55].all fun u => !Tryd.prog.wantsStandIn u) = true := by kernel_rfl
        exact (show Tryd.prog.wantsStandIn t = false by simpa using List.all_eq_true.1 hall t hm)⟩)
    (by kernel_rfl)
end Go.Proofs.YthebdiboijhjmaaDoor
