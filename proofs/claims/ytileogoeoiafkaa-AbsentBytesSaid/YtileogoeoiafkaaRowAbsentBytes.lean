/- Shows any proof's bytes, and that they are read again; and that what any bytes are read as has just these. -/
import Derived.Test.YtileogoeoiafkaaRows
import Derived.Test.YtileogoeoiafkaaFwP
import Derived.Test.YtileogoeoiafkaaPAbsentBytes
namespace Go.Proofs.Ytileogoeoiafkaa
set_option linter.all false
open Go Go.RowKit Go.ChangeShapes Go.WideShapes Go.ChangeAt Go.Fw
open Go.ChangeMaps (open_string shut_string)
set_option linter.unusedVariables false
theorem dec_absent_Side : Dec Try.prog 43 (fun I cs (x : absent_Side) => ∃ p2 c2, cs = [.int .i64 x.Index, .string x.ID, .slice p2 x.Path.length c2] ∧ ro I eStr p2 c2 x.Path) (fun x => ((Lit.int .i64 x.Index).wf = true) ∧ (True) ∧ (∀ y ∈ x.Path, True)) (fun x => (([] : List Nat) ++ [x.ID.size] ++ (x.Path.length * Try.prog.bytesOf 9 :: x.Path.flatMap fun y => [y.size]))) := by
  intro H enc w base spare held fuel cs x h
  obtain ⟨xs, n, _, rfl, hl, hlen, hf⟩ := DataW.trod_struct Try.underlying43 h
  obtain ⟨y0, e0⟩ := get_some hlen 0 (by decide)
  have g0 := hf 0 _ rfl
  rw [e0] at g0
  replace g0 : DataW.trod enc Try.prog w base spare held n 3 ((cs.drop 0).take (Try.prog.cellsOf 3)) = some y0 := g0
  rw [show Try.prog.cellsOf 3 = 1 by kernel_rfl] at g0
  obtain ⟨a0, F0, w0, n0⟩ := (dec_int Try.underlying3) H enc w base spare held n _ _ g0
  obtain ⟨y1, e1⟩ := get_some hlen 1 (by decide)
  have g1 := hf 1 _ rfl
  rw [e1] at g1
  replace g1 : DataW.trod enc Try.prog w base spare held n 9 ((cs.drop 1).take (Try.prog.cellsOf 9)) = some y1 := g1
  rw [show Try.prog.cellsOf 9 = 1 by kernel_rfl] at g1
  obtain ⟨a1, F1, w1, n1⟩ := (dec_str Try.underlying9) H enc w base spare held n _ _ g1
  obtain ⟨y2, e2⟩ := get_some hlen 2 (by decide)
  have g2 := hf 2 _ rfl
  rw [e2] at g2
  replace g2 : DataW.trod enc Try.prog w base spare held n 22 ((cs.drop 2).take (Try.prog.cellsOf 22)) = some y2 := g2
  rw [show Try.prog.cellsOf 22 = 1 by kernel_rfl] at g2
  obtain ⟨a2, F2, w2, n2⟩ := (dec_slice eStr (dec_str Try.underlying9) Try.underlying22 (by kernel_rfl)) H enc w base spare held n _ _ g2
  obtain ⟨p2, c2, F2, r2⟩ := F2
  have hc : cs = (cparts [1, 1, 1] 0 cs).flatten := cells_parts [1, 1, 1] 0 cs (by rw [hl]; kernel_rfl)
  rw [show cparts [1, 1, 1] 0 cs = [(cs.drop 0).take 1, (cs.drop 1).take 1, (cs.drop 2).take 1] from rfl, F0, F1, F2] at hc
  refine ⟨⟨a0, a1, a2⟩, ⟨p2, c2, hc.trans rfl, r2⟩, ⟨w0, w1, w2⟩, fun R hR m hm => ?_⟩
  simp only [List.mem_append, or_assoc] at hm
  rcases hm with hm | hm | hm
  · exact n0 R (weights_agg Try.underlying43 hR (j := 0) rfl e0) m hm
  · exact n1 R (weights_agg Try.underlying43 hR (j := 1) rfl e1) m hm
  · exact n2 R (weights_agg Try.underlying43 hR (j := 2) rfl e2) m hm
theorem dec_absent_Proof : Dec Try.prog 35 (fun I cs (x : absent_Proof) => ∃ p1 c1, cs = [.int .i64 x.Size, .slice p1 x.Sides.length c1] ∧ roN I n_absent_Side p1 c1 x.Sides) (fun x => ((Lit.int .i64 x.Size).wf = true) ∧ (∀ u ∈ x.Sides, ((Lit.int .i64 u.Index).wf = true) ∧ (True) ∧ (∀ y ∈ u.Path, True))) (fun x => (([] : List Nat) ++ (x.Sides.length * Try.prog.bytesOf 43 :: x.Sides.flatMap fun u => (([] : List Nat) ++ [u.ID.size] ++ (u.Path.length * Try.prog.bytesOf 9 :: u.Path.flatMap fun y => [y.size]))))) := by
  intro H enc w base spare held fuel cs x h
  obtain ⟨xs, n, _, rfl, hl, hlen, hf⟩ := DataW.trod_struct Try.underlying35 h
  obtain ⟨y0, e0⟩ := get_some hlen 0 (by decide)
  have g0 := hf 0 _ rfl
  rw [e0] at g0
  replace g0 : DataW.trod enc Try.prog w base spare held n 3 ((cs.drop 0).take (Try.prog.cellsOf 3)) = some y0 := g0
  rw [show Try.prog.cellsOf 3 = 1 by kernel_rfl] at g0
  obtain ⟨a0, F0, w0, n0⟩ := (dec_int Try.underlying3) H enc w base spare held n _ _ g0
  obtain ⟨y1, e1⟩ := get_some hlen 1 (by decide)
  have g1 := hf 1 _ rfl
  rw [e1] at g1
  replace g1 : DataW.trod enc Try.prog w base spare held n 33 ((cs.drop 1).take (Try.prog.cellsOf 33)) = some y1 := g1
  rw [show Try.prog.cellsOf 33 = 1 by kernel_rfl] at g1
  obtain ⟨a1, F1, w1, n1⟩ := (dec_sliceN n_absent_Side (dec_mono dec_absent_Side (by rintro I cs x ⟨p2, c2, h, r2⟩; exact ⟨⟨x.Index, x.ID, ⟨p2, c2, x.Path⟩⟩, h, rfl, r2⟩)) Try.underlying33 (by kernel_rfl)) H enc w base spare held n _ _ g1
  obtain ⟨p1, c1, F1, r1⟩ := F1
  have hc : cs = (cparts [1, 1] 0 cs).flatten := cells_parts [1, 1] 0 cs (by rw [hl]; kernel_rfl)
  rw [show cparts [1, 1] 0 cs = [(cs.drop 0).take 1, (cs.drop 1).take 1] from rfl, F0, F1] at hc
  refine ⟨⟨a0, a1⟩, ⟨p1, c1, hc.trans rfl, r1⟩, ⟨w0, w1⟩, fun R hR m hm => ?_⟩
  simp only [List.mem_append, or_assoc] at hm
  rcases hm with hm | hm
  · exact n0 R (weights_agg Try.underlying35 hR (j := 0) rfl e0) m hm
  · exact n1 R (weights_agg Try.underlying35 hR (j := 1) rfl e1) m hm
theorem absentBytes_own : ownKnob Try.prog.godebug = none := by kernel_rfl
theorem absentBytes_laidOut : laidOutB Try.prog = true := by kernel_rfl
set_option maxRecDepth 100000 in
theorem absentBytes_lifted (os : Os) (started : os.Started) (H : Type) (enc : TypeId × Value → H) :
    ReturnsInHanded {} Try.checked os 7 .any (Rows.absentBytesSpec.pre6 enc Try.prog Try.f7 Rows.absentBytesRow.domain false) (Rows.absentBytesSpec.post enc Try.prog Try.f7 false true false false) := by
  refine returnsInHanded_of_change_sized (C := Try.checked) absentBytes_own started (by kernel_rfl) Try.func7
    (ChangeSpec.witness6 (enc := enc) (C := Try.checked) false ⟨#[], #[.agg #[.int .i64 0, .slice none 0 0], .string ByteArray.empty], []⟩ 8 (by kernel_rfl) (by kernel_rfl) (by kernel_rfl) (by kernel_rfl)) ?_
  intro W base args ds gs before hval0 hW hcnd hsz0 _
  have hsz : (DataW.weightsEach Try.prog (Try.f7.params.toList ++ Rows.absentBytesSpec.plain.varTypes Try.prog) (ds ++ gs)).all (· ≤ reachBytes) = true := hsz0
  have hval : ∀ (j : Nat) t v, Try.f7.params[j]? = some t → args[j]? = some v → Value.okWide Try.prog W .any base t v := hval0
  have hW' := hW
  obtain ⟨p, q, hA0, hV, rfl, hfz, hnd⟩ := hW
  have hA : DataW.TrodAll enc Try.prog W 0 (fun _ => true) true Try.f7.params.toList args.toList ds p := hA0
  rw [Try.params7] at hA hval hsz
  obtain ⟨v0, vs0, d0, ds0, p0, q0, hargs, rfl, rfl, h0, r0⟩ := trodAll_cons hA
  obtain ⟨v1, vs1, d1, ds1, p1, q1, rfl, rfl, rfl, h1, r1⟩ := trodAll_cons r0
  obtain ⟨rfl, rfl, rfl⟩ := trodAll_nil r1
  obtain rfl : args = #[v0, v1] := by cases args; simp_all
  obtain ⟨rfl, rfl⟩ := trodVars_none hV
  have k0 := h0
  have lt0 : ∀ x ∈ p0, x.block < W.heap.size := by obtain ⟨m, hm⟩ := k0; exact DataW.trod_lt m _ _ _ hm
  obtain ⟨cs0, hv0, _⟩ := okWide_struct Try.underlying35 (hval 0 35 v0 rfl rfl)
  obtain ⟨fuel0, hf0⟩ := h0
  obtain ⟨a0, F0, w0, n0⟩ := dec_absent_Proof H enc W 0 _ _ fuel0 _ _ hf0
  obtain ⟨b0_1, c0_1, F0, R0_1⟩ := F0
  obtain rfl : v0 = .agg #[.int .i64 a0.Size, .slice b0_1 a0.Sides.length c0_1] := by subst hv0; exact congrArg Value.agg (arr_of F0)
  have hz0 := sized_dec (N := (([] : List Nat) ++ (a0.Sides.length * Try.prog.bytesOf 43 :: a0.Sides.flatMap fun u => (([] : List Nat) ++ [u.ID.size] ++ (u.Path.length * Try.prog.bytesOf 9 :: u.Path.flatMap fun y => [y.size]))))) hsz (j := 0) (t := 35) rfl rfl n0
  have k1 := h1
  have lt1 : ∀ x ∈ p1, x.block < W.heap.size := by obtain ⟨m, hm⟩ := k1; exact DataW.trod_lt m _ _ _ hm
  obtain ⟨z1, hv1⟩ := okWide_string Try.underlying9 (hval 1 9 v1 rfl rfl)
  obtain ⟨fuel1, hf1⟩ := h1
  obtain ⟨a1, F1, w1, n1⟩ := (dec_str Try.underlying9) H enc W 0 _ _ fuel1 _ _ hf1
  obtain rfl : v1 = .string a1 := by subst hv1; exact (List.cons.inj F1).1
  have hz1 := sized_dec (N := [a1.size]) hsz (j := 1) (t := 9) rfl rfl n1
  clear hA0 hval0 hsz0 hsz hval
  have hp := pure_AbsentBytes a0 a1 w0 hz0 w1 hz1
  have tr := c_law24_AbsentBytes (Go.Fw.hp W) a0 a1 b0_1 c0_1 true hp R0_1
  refine (calls_of_tr tr (by first | (rintro r H ⟨rfl, rfl⟩; exact ⟨rfl, _, _, rfl, Hl.sub_refl _⟩) | (rintro r H ⟨J, rfl, rfl, hJ⟩; exact ⟨rfl, _, _, rfl, hJ⟩))).mono fun e W' ⟨he, bel⟩ => ?_
  subst he
  exact ⟨_, rfl, _, _, _, [], _, [], hW', trodAll_mk1 (shut_bool Try.underlying4 _), (trodAll_cons_mk (Below.trod absentBytes_laidOut (by kernel_rfl) (of_decide_eq_true (by kernel_rfl)) k0 bel lt0) (trodAll_cons_mk (Below.trod absentBytes_laidOut (by kernel_rfl) (of_decide_eq_true (by kernel_rfl)) k1 bel lt1) trodAll_mk0)), rfl, bel.frame _, (fun h => by cases h)⟩
theorem absentBytes_holds : Rows.AbsentBytesSaid :=
  OpenClaim.holds_of_wide 7 Try.f7 rfl rfl rfl rfl rfl rfl rfl ⟨rfl, rfl, rfl, rfl, rfl⟩ rfl rfl rfl rfl rfl (by kernel_rfl) Try.func7 (by kernel_rfl)
    (of_decide_eq_true (by kernel_rfl)) (by unfold Func.isWrapper; first | (rw [if_pos (by decide +kernel)]; kernel_rfl) | (rw [if_neg (by decide +kernel)]; exact ⟨rfl, rfl⟩))
    (fun os started H enc _ => absentBytes_lifted os started H enc)
end Go.Proofs.Ytileogoeoiafkaa
