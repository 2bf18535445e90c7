/- Any proof's bytes, and that it is read again. -/
import Derived.Test.YtoamnhmdhficiaaRows
import Derived.Test.YtoamnhmdhficiaaFwP
import Derived.Test.YtoamnhmdhficiaaPBatchBytes
namespace Go.Proofs.Ytoamnhmdhficiaa
set_option linter.all false
open Go Go.RowKit Go.ChangeShapes Go.WideShapes Go.ChangeAt Go.Fw
open Go.ChangeMaps (open_string shut_string)
set_option linter.unusedVariables false
theorem dec_batch_Proof : Dec Try.prog 25 (fun I cs (x : batch_Proof) => ∃ p1 c1, ∃ p2 c2, ∃ p3 c3, cs = [.int .i64 x.Size, .slice p1 x.Picks.length c1, .slice p2 x.Leaf.length c2, .slice p3 x.Nodes.length c3] ∧ ro I (eInt .i64) p1 c1 x.Picks ∧ ro I eStr p2 c2 x.Leaf ∧ ro I eStr p3 c3 x.Nodes) (fun x => ((Lit.int .i64 x.Size).wf = true) ∧ (∀ y ∈ x.Picks, (Lit.int .i64 y).wf = true) ∧ (∀ y ∈ x.Leaf, True) ∧ (∀ y ∈ x.Nodes, True)) (fun x => (([] : List Nat) ++ (x.Picks.length * Try.prog.bytesOf 3 :: x.Picks.flatMap fun y => ([] : List Nat)) ++ (x.Leaf.length * Try.prog.bytesOf 9 :: x.Leaf.flatMap fun y => [y.size]) ++ (x.Nodes.length * Try.prog.bytesOf 9 :: x.Nodes.flatMap fun y => [y.size]))) := by
  intro H enc w base spare held fuel cs x h
  obtain ⟨xs, n, _, rfl, hl, hlen, hf⟩ := DataW.trod_struct Try.underlying25 h
  obtain ⟨y0, e0⟩ := get_some hlen 0 (by decide)
  have g0 := hf 0 _ rfl
  rw [e0] at g0
  replace g0 : DataW.trod enc Try.prog w base spare held n 3 ((cs.drop 0).take (Try.prog.cellsOf 3)) = some y0 := g0
  rw [show Try.prog.cellsOf 3 = 1 by kernel_rfl] at g0
  obtain ⟨a0, F0, w0, n0⟩ := (dec_int Try.underlying3) H enc w base spare held n _ _ g0
  obtain ⟨y1, e1⟩ := get_some hlen 1 (by decide)
  have g1 := hf 1 _ rfl
  rw [e1] at g1
  replace g1 : DataW.trod enc Try.prog w base spare held n 22 ((cs.drop 1).take (Try.prog.cellsOf 22)) = some y1 := g1
  rw [show Try.prog.cellsOf 22 = 1 by kernel_rfl] at g1
  obtain ⟨a1, F1, w1, n1⟩ := (dec_slice (eInt .i64) (dec_int Try.underlying3) Try.underlying22 (by kernel_rfl)) H enc w base spare held n _ _ g1
  obtain ⟨p1, c1, F1, r1⟩ := F1
  obtain ⟨y2, e2⟩ := get_some hlen 2 (by decide)
  have g2 := hf 2 _ rfl
  rw [e2] at g2
  replace g2 : DataW.trod enc Try.prog w base spare held n 23 ((cs.drop 2).take (Try.prog.cellsOf 23)) = some y2 := g2
  rw [show Try.prog.cellsOf 23 = 1 by kernel_rfl] at g2
  obtain ⟨a2, F2, w2, n2⟩ := (dec_slice eStr (dec_str Try.underlying9) Try.underlying23 (by kernel_rfl)) H enc w base spare held n _ _ g2
  obtain ⟨p2, c2, F2, r2⟩ := F2
  obtain ⟨y3, e3⟩ := get_some hlen 3 (by decide)
  have g3 := hf 3 _ rfl
  rw [e3] at g3
  replace g3 : DataW.trod enc Try.prog w base spare held n 23 ((cs.drop 3).take (Try.prog.cellsOf 23)) = some y3 := g3
  rw [show Try.prog.cellsOf 23 = 1 by kernel_rfl] at g3
  obtain ⟨a3, F3, w3, n3⟩ := (dec_slice eStr (dec_str Try.underlying9) Try.underlying23 (by kernel_rfl)) H enc w base spare held n _ _ g3
  obtain ⟨p3, c3, F3, r3⟩ := F3
  have hc : cs = (cparts [1, 1, 1, 1] 0 cs).flatten := cells_parts [1, 1, 1, 1] 0 cs (by rw [hl]; kernel_rfl)
  rw [show cparts [1, 1, 1, 1] 0 cs = [(cs.drop 0).take 1, (cs.drop 1).take 1, (cs.drop 2).take 1, (cs.drop 3).take 1] from rfl, F0, F1, F2, F3] at hc
  refine ⟨⟨a0, a1, a2, a3⟩, ⟨p1, c1, p2, c2, p3, c3, hc.trans rfl, r1, r2, r3⟩, ⟨w0, w1, w2, w3⟩, fun R hR m hm => ?_⟩
  simp only [List.mem_append, or_assoc] at hm
  rcases hm with hm | hm | hm | hm
  · exact n0 R (weights_agg Try.underlying25 hR (j := 0) rfl e0) m hm
  · exact n1 R (weights_agg Try.underlying25 hR (j := 1) rfl e1) m hm
  · exact n2 R (weights_agg Try.underlying25 hR (j := 2) rfl e2) m hm
  · exact n3 R (weights_agg Try.underlying25 hR (j := 3) rfl e3) m hm
theorem batchBytes_own : ownKnob Try.prog.godebug = none := by kernel_rfl
theorem batchBytes_laidOut : laidOutB Try.prog = true := by kernel_rfl
set_option maxRecDepth 100000 in
theorem batchBytes_lifted (os : Os) (started : os.Started) (H : Type) (enc : TypeId × Value → H) :
    ReturnsInHanded {} Try.checked os 7 .any (Rows.batchBytesSpec.pre6 enc Try.prog Try.f7 Rows.batchBytesRow.domain false) (Rows.batchBytesSpec.post enc Try.prog Try.f7 false true false false) := by
  refine returnsInHanded_of_change_sized (C := Try.checked) batchBytes_own started (by kernel_rfl) Try.func7
    (ChangeSpec.witness6 (enc := enc) (C := Try.checked) false ⟨#[], #[.agg #[.int .i64 0, .slice none 0 0, .slice none 0 0, .slice none 0 0]], []⟩ 8 (by kernel_rfl) (by kernel_rfl) (by kernel_rfl) (by kernel_rfl)) ?_
  intro W base args ds gs before hval0 hW hcnd hsz0 _
  have hsz : (DataW.weightsEach Try.prog (Try.f7.params.toList ++ Rows.batchBytesSpec.plain.varTypes Try.prog) (ds ++ gs)).all (· ≤ reachBytes) = true := hsz0
  have hval : ∀ (j : Nat) t v, Try.f7.params[j]? = some t → args[j]? = some v → Value.okWide Try.prog W .any base t v := hval0
  have hW' := hW
  obtain ⟨p, q, hA0, hV, rfl, hfz, hnd⟩ := hW
  have hA : DataW.TrodAll enc Try.prog W 0 (fun _ => true) true Try.f7.params.toList args.toList ds p := hA0
  rw [Try.params7] at hA hval hsz
  obtain ⟨v0, vs0, d0, ds0, p0, q0, hargs, rfl, rfl, h0, r0⟩ := trodAll_cons hA
  obtain ⟨rfl, rfl, rfl⟩ := trodAll_nil r0
  obtain rfl : args = #[v0] := by cases args; simp_all
  obtain ⟨rfl, rfl⟩ := trodVars_none hV
  have k0 := h0
  have lt0 : ∀ x ∈ p0, x.block < W.heap.size := by obtain ⟨m, hm⟩ := k0; exact DataW.trod_lt m _ _ _ hm
  obtain ⟨cs0, hv0, _⟩ := okWide_struct Try.underlying25 (hval 0 25 v0 rfl rfl)
  obtain ⟨fuel0, hf0⟩ := h0
  obtain ⟨a0, F0, w0, n0⟩ := dec_batch_Proof H enc W 0 _ _ fuel0 _ _ hf0
  obtain ⟨b0_1, c0_1, b0_2, c0_2, b0_3, c0_3, F0, R0_1, R0_2, R0_3⟩ := F0
  obtain rfl : v0 = .agg #[.int .i64 a0.Size, .slice b0_1 a0.Picks.length c0_1, .slice b0_2 a0.Leaf.length c0_2, .slice b0_3 a0.Nodes.length c0_3] := by subst hv0; exact congrArg Value.agg (arr_of F0)
  have hz0 := sized_dec (N := (([] : List Nat) ++ (a0.Picks.length * Try.prog.bytesOf 3 :: a0.Picks.flatMap fun y => ([] : List Nat)) ++ (a0.Leaf.length * Try.prog.bytesOf 9 :: a0.Leaf.flatMap fun y => [y.size]) ++ (a0.Nodes.length * Try.prog.bytesOf 9 :: a0.Nodes.flatMap fun y => [y.size]))) hsz (j := 0) (t := 25) rfl rfl n0
  clear hA0 hval0 hsz0 hsz hval
  have hp := pure_BatchBytes a0 w0 hz0
  have tr := c_law30_BatchBytes (Go.Fw.hp W) a0 b0_1 c0_1 b0_2 c0_2 b0_3 c0_3 true hp R0_1 R0_2 R0_3
  refine (calls_of_tr tr (by first | (rintro r H ⟨rfl, rfl⟩; exact ⟨rfl, _, _, rfl, Hl.sub_refl _⟩) | (rintro r H ⟨J, rfl, rfl, hJ⟩; exact ⟨rfl, _, _, rfl, hJ⟩))).mono fun e W' ⟨he, bel⟩ => ?_
  subst he
  exact ⟨_, rfl, _, _, _, [], _, [], hW', trodAll_mk1 (shut_bool Try.underlying4 _), (trodAll_cons_mk (Below.trod batchBytes_laidOut (by kernel_rfl) (of_decide_eq_true (by kernel_rfl)) k0 bel lt0) trodAll_mk0), rfl, bel.frame _, (fun h => by cases h)⟩
theorem batchBytes_holds : Rows.BatchBytesSaid :=
  OpenClaim.holds_of_wide 7 Try.f7 rfl rfl rfl rfl rfl rfl rfl ⟨rfl, rfl, rfl, rfl, rfl⟩ rfl rfl rfl rfl rfl (by kernel_rfl) Try.func7 (by kernel_rfl)
    (of_decide_eq_true (by kernel_rfl)) (by unfold Func.isWrapper; first | (rw [if_pos (by decide +kernel)]; kernel_rfl) | (rw [if_neg (by decide +kernel)]; exact ⟨rfl, rfl⟩))
    (fun os started H enc _ => batchBytes_lifted os started H enc)
end Go.Proofs.Ytoamnhmdhficiaa
