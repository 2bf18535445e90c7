/- Where anything else is believed of a list than it is, two unlike texts of one sum were summed, with any table. -/
import Derived.Test.YtileogoeoiafkaaRows
import Derived.Test.YtileogoeoiafkaaFwP
import Derived.Test.YtileogoeoiafkaaPAbsentHonest
namespace Go.Proofs.Ytileogoeoiafkaa
set_option linter.all false
open Go Go.RowKit Go.ChangeShapes Go.WideShapes Go.ChangeAt Go.Fw
open Go.ChangeMaps (open_string shut_string)
set_option linter.unusedVariables false
theorem dec_mill_Entry : Dec Try.prog 80 (fun _ cs (x : mill_Entry) => cs = mill_Entry.cells x) (fun x => (True) ∧ (True) ∧ (True) ∧ (True)) (fun x => (([] : List Nat) ++ [x.Key.size] ++ [x.Text.size] ++ [x.Out.size])) := by
  intro H enc w base spare held fuel cs x h
  obtain ⟨xs, n, _, rfl, hl, hlen, hf⟩ := DataW.trod_struct Try.underlying80 h
  obtain ⟨y0, e0⟩ := get_some hlen 0 (by decide)
  have g0 := hf 0 _ rfl
  rw [e0] at g0
  replace g0 : DataW.trod enc Try.prog w base spare held n 4 ((cs.drop 0).take (Try.prog.cellsOf 4)) = some y0 := g0
  rw [show Try.prog.cellsOf 4 = 1 by kernel_rfl] at g0
  obtain ⟨a0, F0, w0, n0⟩ := (dec_bool Try.underlying4) H enc w base spare held n _ _ g0
  obtain ⟨y1, e1⟩ := get_some hlen 1 (by decide)
  have g1 := hf 1 _ rfl
  rw [e1] at g1
  replace g1 : DataW.trod enc Try.prog w base spare held n 9 ((cs.drop 1).take (Try.prog.cellsOf 9)) = some y1 := g1
  rw [show Try.prog.cellsOf 9 = 1 by kernel_rfl] at g1
  obtain ⟨a1, F1, w1, n1⟩ := (dec_str Try.underlying9) H enc w base spare held n _ _ g1
  obtain ⟨y2, e2⟩ := get_some hlen 2 (by decide)
  have g2 := hf 2 _ rfl
  rw [e2] at g2
  replace g2 : DataW.trod enc Try.prog w base spare held n 9 ((cs.drop 2).take (Try.prog.cellsOf 9)) = some y2 := g2
  rw [show Try.prog.cellsOf 9 = 1 by kernel_rfl] at g2
  obtain ⟨a2, F2, w2, n2⟩ := (dec_str Try.underlying9) H enc w base spare held n _ _ g2
  obtain ⟨y3, e3⟩ := get_some hlen 3 (by decide)
  have g3 := hf 3 _ rfl
  rw [e3] at g3
  replace g3 : DataW.trod enc Try.prog w base spare held n 9 ((cs.drop 3).take (Try.prog.cellsOf 9)) = some y3 := g3
  rw [show Try.prog.cellsOf 9 = 1 by kernel_rfl] at g3
  obtain ⟨a3, F3, w3, n3⟩ := (dec_str Try.underlying9) H enc w base spare held n _ _ g3
  have hc : cs = (cparts [1, 1, 1, 1] 0 cs).flatten := cells_parts [1, 1, 1, 1] 0 cs (by rw [hl]; kernel_rfl)
  rw [show cparts [1, 1, 1, 1] 0 cs = [(cs.drop 0).take 1, (cs.drop 1).take 1, (cs.drop 2).take 1, (cs.drop 3).take 1] from rfl, F0, F1, F2, F3] at hc
  refine ⟨⟨a0, a1, a2, a3⟩, hc.trans rfl, ⟨w0, w1, w2, w3⟩, fun R hR m hm => ?_⟩
  simp only [List.mem_append, or_assoc] at hm
  rcases hm with hm | hm | hm | hm
  · exact n0 R (weights_agg Try.underlying80 hR (j := 0) rfl e0) m hm
  · exact n1 R (weights_agg Try.underlying80 hR (j := 1) rfl e1) m hm
  · exact n2 R (weights_agg Try.underlying80 hR (j := 2) rfl e2) m hm
  · exact n3 R (weights_agg Try.underlying80 hR (j := 3) rfl e3) m hm
theorem dec_absent_Side : Dec Try.prog 43 (fun I cs (x : absent_Side) => ∃ p2 c2, cs = [.int .i64 x.Index, .string x.ID, .slice p2 x.Path.length c2] ∧ ro I eStr p2 c2 x.Path) (fun x => ((Lit.int .i64 x.Index).wf = true) ∧ (True) ∧ (∀ y ∈ x.Path, True)) (fun x => (([] : List Nat) ++ [x.ID.size] ++ (x.Path.length * Try.prog.bytesOf 9 :: x.Path.flatMap fun y => [y.size]))) := by
  intro H enc w base spare held fuel cs x h
  obtain ⟨xs, n, _, rfl, hl, hlen, hf⟩ := DataW.trod_struct Try.underlying43 h
  obtain ⟨y0, e0⟩ := get_some hlen 0 (by decide)
  have g0 := hf 0 _ rfl
  rw [e0] at g0
  replace g0 : DataW.trod enc Try.prog w base spare held n 3 ((cs.drop 0).take (Try.prog.cellsOf 3)) = some y0 := g0
  rw [show Try.prog.cellsOf 3 = 1 by kernel_rfl] at g0
  obtain ⟨a0, F0, w0, n0⟩ := (dec_int Try.underlying3) H enc w base spare held n _ _ g0
  obtain ⟨y1, e1⟩ := get_some hlen 1 (by decide)
  have g1 := hf 1 _ rfl
  rw [e1] at g1
  replace g1 : DataW.trod enc Try.prog w base spare held n 9 ((cs.drop 1).take (Try.prog.cellsOf 9)) = some y1 := g1
  rw [show Try.prog.cellsOf 9 = 1 by kernel_rfl] at g1
  obtain ⟨a1, F1, w1, n1⟩ := (dec_str Try.underlying9) H enc w base spare held n _ _ g1
  obtain ⟨y2, e2⟩ := get_some hlen 2 (by decide)
  have g2 := hf 2 _ rfl
  rw [e2] at g2
  replace g2 : DataW.trod enc Try.prog w base spare held n 22 ((cs.drop 2).take (Try.prog.cellsOf 22)) = some y2 := g2
  rw [show Try.prog.cellsOf 22 = 1 by kernel_rfl] at g2
  obtain ⟨a2, F2, w2, n2⟩ := (dec_slice eStr (dec_str Try.underlying9) Try.underlying22 (by kernel_rfl)) H enc w base spare held n _ _ g2
  obtain ⟨p2, c2, F2, r2⟩ := F2
  have hc : cs = (cparts [1, 1, 1] 0 cs).flatten := cells_parts [1, 1, 1] 0 cs (by rw [hl]; kernel_rfl)
  rw [show cparts [1, 1, 1] 0 cs = [(cs.drop 0).take 1, (cs.drop 1).take 1, (cs.drop 2).take 1] from rfl, F0, F1, F2] at hc
  refine ⟨⟨a0, a1, a2⟩, ⟨p2, c2, hc.trans rfl, r2⟩, ⟨w0, w1, w2⟩, fun R hR m hm => ?_⟩
  simp only [List.mem_append, or_assoc] at hm
  rcases hm with hm | hm | hm
  · exact n0 R (weights_agg Try.underlying43 hR (j := 0) rfl e0) m hm
  · exact n1 R (weights_agg Try.underlying43 hR (j := 1) rfl e1) m hm
  · exact n2 R (weights_agg Try.underlying43 hR (j := 2) rfl e2) m hm
theorem dec_absent_Proof : Dec Try.prog 35 (fun I cs (x : absent_Proof) => ∃ p1 c1, cs = [.int .i64 x.Size, .slice p1 x.Sides.length c1] ∧ roN I n_absent_Side p1 c1 x.Sides) (fun x => ((Lit.int .i64 x.Size).wf = true) ∧ (∀ u ∈ x.Sides, ((Lit.int .i64 u.Index).wf = true) ∧ (True) ∧ (∀ y ∈ u.Path, True))) (fun x => (([] : List Nat) ++ (x.Sides.length * Try.prog.bytesOf 43 :: x.Sides.flatMap fun u => (([] : List Nat) ++ [u.ID.size] ++ (u.Path.length * Try.prog.bytesOf 9 :: u.Path.flatMap fun y => [y.size]))))) := by
  intro H enc w base spare held fuel cs x h
  obtain ⟨xs, n, _, rfl, hl, hlen, hf⟩ := DataW.trod_struct Try.underlying35 h
  obtain ⟨y0, e0⟩ := get_some hlen 0 (by decide)
  have g0 := hf 0 _ rfl
  rw [e0] at g0
  replace g0 : DataW.trod enc Try.prog w base spare held n 3 ((cs.drop 0).take (Try.prog.cellsOf 3)) = some y0 := g0
  rw [show Try.prog.cellsOf 3 = 1 by kernel_rfl] at g0
  obtain ⟨a0, F0, w0, n0⟩ := (dec_int Try.underlying3) H enc w base spare held n _ _ g0
  obtain ⟨y1, e1⟩ := get_some hlen 1 (by decide)
  have g1 := hf 1 _ rfl
  rw [e1] at g1
  replace g1 : DataW.trod enc Try.prog w base spare held n 33 ((cs.drop 1).take (Try.prog.cellsOf 33)) = some y1 := g1
  rw [show Try.prog.cellsOf 33 = 1 by kernel_rfl] at g1
  obtain ⟨a1, F1, w1, n1⟩ := (dec_sliceN n_absent_Side (dec_mono dec_absent_Side (by rintro I cs x ⟨p2, c2, h, r2⟩; exact ⟨⟨x.Index, x.ID, ⟨p2, c2, x.Path⟩⟩, h, rfl, r2⟩)) Try.underlying33 (by kernel_rfl)) H enc w base spare held n _ _ g1
  obtain ⟨p1, c1, F1, r1⟩ := F1
  have hc : cs = (cparts [1, 1] 0 cs).flatten := cells_parts [1, 1] 0 cs (by rw [hl]; kernel_rfl)
  rw [show cparts [1, 1] 0 cs = [(cs.drop 0).take 1, (cs.drop 1).take 1] from rfl, F0, F1] at hc
  refine ⟨⟨a0, a1⟩, ⟨p1, c1, hc.trans rfl, r1⟩, ⟨w0, w1⟩, fun R hR m hm => ?_⟩
  simp only [List.mem_append, or_assoc] at hm
  rcases hm with hm | hm
  · exact n0 R (weights_agg Try.underlying35 hR (j := 0) rfl e0) m hm
  · exact n1 R (weights_agg Try.underlying35 hR (j := 1) rfl e1) m hm
theorem absentHonest_own : ownKnob Try.prog.godebug = none := by kernel_rfl
theorem absentHonest_laidOut : laidOutB Try.prog = true := by kernel_rfl
set_option maxRecDepth 100000 in
theorem absentHonest_lifted (os : Os) (started : os.Started) (H : Type) (enc : TypeId × Value → H) :
    ReturnsInHanded {} Try.checked os 6 .any (Rows.absentHonestSpec.pre6 enc Try.prog Try.f6 Rows.absentHonestRow.domain false) (Rows.absentHonestSpec.post enc Try.prog Try.f6 false true false false) := by
  refine returnsInHanded_of_change_sized (C := Try.checked) absentHonest_own started (by kernel_rfl) Try.func6
    (ChangeSpec.witness6 (enc := enc) (C := Try.checked) false ⟨#[], #[.slice none 0 0, .slice none 0 0, .string ByteArray.empty, .agg #[.int .i64 0, .slice none 0 0]], []⟩ 8 (by kernel_rfl) (by kernel_rfl) (by kernel_rfl) (by kernel_rfl)) ?_
  intro W base args ds gs before hval0 hW hcnd hsz0 _
  have hsz : (DataW.weightsEach Try.prog (Try.f6.params.toList ++ Rows.absentHonestSpec.plain.varTypes Try.prog) (ds ++ gs)).all (· ≤ reachBytes) = true := hsz0
  have hval : ∀ (j : Nat) t v, Try.f6.params[j]? = some t → args[j]? = some v → Value.okWide Try.prog W .any base t v := hval0
  have hW' := hW
  obtain ⟨p, q, hA0, hV, rfl, hfz, hnd⟩ := hW
  have hA : DataW.TrodAll enc Try.prog W 0 (fun _ => true) true Try.f6.params.toList args.toList ds p := hA0
  rw [Try.params6] at hA hval hsz
  obtain ⟨v0, vs0, d0, ds0, p0, q0, hargs, rfl, rfl, h0, r0⟩ := trodAll_cons hA
  obtain ⟨v1, vs1, d1, ds1, p1, q1, rfl, rfl, rfl, h1, r1⟩ := trodAll_cons r0
  obtain ⟨v2, vs2, d2, ds2, p2, q2, rfl, rfl, rfl, h2, r2⟩ := trodAll_cons r1
  obtain ⟨v3, vs3, d3, ds3, p3, q3, rfl, rfl, rfl, h3, r3⟩ := trodAll_cons r2
  obtain ⟨rfl, rfl, rfl⟩ := trodAll_nil r3
  obtain rfl : args = #[v0, v1, v2, v3] := by cases args; simp_all
  obtain ⟨rfl, rfl⟩ := trodVars_none hV
  have k0 := h0
  have lt0 : ∀ x ∈ p0, x.block < W.heap.size := by obtain ⟨m, hm⟩ := k0; exact DataW.trod_lt m _ _ _ hm
  obtain ⟨z0, len0, cap0, hv0⟩ := okWide_slice Try.underlying49 (hval 0 49 v0 rfl rfl)
  obtain ⟨fuel0, hf0⟩ := h0
  obtain ⟨a0, F0, w0, n0⟩ := (dec_slice e_mill_Entry dec_mill_Entry Try.underlying49 (by kernel_rfl)) H enc W 0 _ _ fuel0 _ _ hf0
  obtain ⟨b0, c0, F0, R0⟩ := F0
  obtain rfl : v0 = .slice b0 a0.length c0 := by subst hv0; exact (List.cons.inj F0).1
  have hz0 := sized_dec (N := (a0.length * Try.prog.bytesOf 80 :: a0.flatMap fun y => (([] : List Nat) ++ [y.Key.size] ++ [y.Text.size] ++ [y.Out.size]))) hsz (j := 0) (t := 49) rfl rfl n0
  have k1 := h1
  have lt1 : ∀ x ∈ p1, x.block < W.heap.size := by obtain ⟨m, hm⟩ := k1; exact DataW.trod_lt m _ _ _ hm
  obtain ⟨z1, len1, cap1, hv1⟩ := okWide_slice Try.underlying22 (hval 1 22 v1 rfl rfl)
  obtain ⟨fuel1, hf1⟩ := h1
  obtain ⟨a1, F1, w1, n1⟩ := (dec_slice eStr (dec_str Try.underlying9) Try.underlying22 (by kernel_rfl)) H enc W 0 _ _ fuel1 _ _ hf1
  obtain ⟨b1, c1, F1, R1⟩ := F1
  obtain rfl : v1 = .slice b1 a1.length c1 := by subst hv1; exact (List.cons.inj F1).1
  have hz1 := sized_dec (N := (a1.length * Try.prog.bytesOf 9 :: a1.flatMap fun y => [y.size])) hsz (j := 1) (t := 22) rfl rfl n1
  have k2 := h2
  have lt2 : ∀ x ∈ p2, x.block < W.heap.size := by obtain ⟨m, hm⟩ := k2; exact DataW.trod_lt m _ _ _ hm
  obtain ⟨z2, hv2⟩ := okWide_string Try.underlying9 (hval 2 9 v2 rfl rfl)
  obtain ⟨fuel2, hf2⟩ := h2
  obtain ⟨a2, F2, w2, n2⟩ := (dec_str Try.underlying9) H enc W 0 _ _ fuel2 _ _ hf2
  obtain rfl : v2 = .string a2 := by subst hv2; exact (List.cons.inj F2).1
  have hz2 := sized_dec (N := [a2.size]) hsz (j := 2) (t := 9) rfl rfl n2
  have k3 := h3
  have lt3 : ∀ x ∈ p3, x.block < W.heap.size := by obtain ⟨m, hm⟩ := k3; exact DataW.trod_lt m _ _ _ hm
  obtain ⟨cs3, hv3, _⟩ := okWide_struct Try.underlying35 (hval 3 35 v3 rfl rfl)
  obtain ⟨fuel3, hf3⟩ := h3
  obtain ⟨a3, F3, w3, n3⟩ := dec_absent_Proof H enc W 0 _ _ fuel3 _ _ hf3
  obtain ⟨b3_1, c3_1, F3, R3_1⟩ := F3
  obtain rfl : v3 = .agg #[.int .i64 a3.Size, .slice b3_1 a3.Sides.length c3_1] := by subst hv3; exact congrArg Value.agg (arr_of F3)
  have hz3 := sized_dec (N := (([] : List Nat) ++ (a3.Sides.length * Try.prog.bytesOf 43 :: a3.Sides.flatMap fun u => (([] : List Nat) ++ [u.ID.size] ++ (u.Path.length * Try.prog.bytesOf 9 :: u.Path.flatMap fun y => [y.size]))))) hsz (j := 3) (t := 35) rfl rfl n3
  clear hA0 hval0 hsz0 hsz hval
  have hp := pure_AbsentHonest a0 a1 a2 a3 w0 hz0 w1 hz1 w2 hz2 w3 hz3
  have tr := c_law24_AbsentHonest (Go.Fw.hp W) a0 a1 a2 a3 b0 c0 b1 c1 b3_1 c3_1 true hp R0 R1 R3_1
  refine (calls_of_tr tr (by first | (rintro r H ⟨rfl, rfl⟩; exact ⟨rfl, _, _, rfl, Hl.sub_refl _⟩) | (rintro r H ⟨J, rfl, rfl, hJ⟩; exact ⟨rfl, _, _, rfl, hJ⟩))).mono fun e W' ⟨he, bel⟩ => ?_
  subst he
  exact ⟨_, rfl, _, _, _, [], _, [], hW', trodAll_mk1 (shut_bool Try.underlying4 _), (trodAll_cons_mk (Below.trod absentHonest_laidOut (by kernel_rfl) (of_decide_eq_true (by kernel_rfl)) k0 bel lt0) (trodAll_cons_mk (Below.trod absentHonest_laidOut (by kernel_rfl) (of_decide_eq_true (by kernel_rfl)) k1 bel lt1) (trodAll_cons_mk (Below.trod absentHonest_laidOut (by kernel_rfl) (of_decide_eq_true (by kernel_rfl)) k2 bel lt2) (trodAll_cons_mk (Below.trod absentHonest_laidOut (by kernel_rfl) (of_decide_eq_true (by kernel_rfl)) k3 bel lt3) trodAll_mk0)))), rfl, bel.frame _, (fun h => by cases h)⟩
theorem absentHonest_holds : Rows.AbsentHonestSaid :=
  OpenClaim.holds_of_wide 6 Try.f6 rfl rfl rfl rfl rfl rfl rfl ⟨rfl, rfl, rfl, rfl, rfl⟩ rfl rfl rfl rfl rfl (by kernel_rfl) Try.func6 (by kernel_rfl)
    (of_decide_eq_true (by kernel_rfl)) (by unfold Func.isWrapper; first | (rw [if_pos (by decide +kernel)]; kernel_rfl) | (rw [if_neg (by decide +kernel)]; exact ⟨rfl, rfl⟩))
    (fun os started H enc _ => absentHonest_lifted os started H enc)
end Go.Proofs.Ytileogoeoiafkaa
