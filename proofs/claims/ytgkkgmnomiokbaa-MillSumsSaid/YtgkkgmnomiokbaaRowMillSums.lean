/- PROVED: for every table and list of texts, MillSums returns true, and what came in reads as it did. No condition. -/
import Derived.Test.YtgkkgmnomiokbaaRows
import Derived.Test.YtgkkgmnomiokbaaFwP
import Derived.Test.YtgkkgmnomiokbaaPMillSums
namespace Go.Proofs.Ytgkkgmnomiokbaa
set_option linter.all false
open Go Go.RowKit Go.ChangeShapes Go.WideShapes Go.ChangeAt Go.Fw
open Go.ChangeMaps (open_string shut_string)
set_option linter.unusedVariables false
theorem dec_mill_Entry : Dec Try.prog 42 (fun _ cs (x : mill_Entry) => cs = mill_Entry.cells x) (fun x => (True) ∧ (True) ∧ (True) ∧ (True)) (fun x => (([] : List Nat) ++ [x.Key.size] ++ [x.Text.size] ++ [x.Out.size])) := by
  intro H enc w base spare held fuel cs x h
  obtain ⟨xs, n, _, rfl, hl, hlen, hf⟩ := DataW.trod_struct Try.underlying42 h
  obtain ⟨y0, e0⟩ := get_some hlen 0 (by decide)
  have g0 := hf 0 _ rfl
  rw [e0] at g0
  replace g0 : DataW.trod enc Try.prog w base spare held n 4 ((cs.drop 0).take (Try.prog.cellsOf 4)) = some y0 := g0
  rw [show Try.prog.cellsOf 4 = 1 by kernel_rfl] at g0
  obtain ⟨a0, F0, w0, n0⟩ := (dec_bool Try.underlying4) H enc w base spare held n _ _ g0
  obtain ⟨y1, e1⟩ := get_some hlen 1 (by decide)
  have g1 := hf 1 _ rfl
  rw [e1] at g1
  replace g1 : DataW.trod enc Try.prog w base spare held n 9 ((cs.drop 1).take (Try.prog.cellsOf 9)) = some y1 := g1
  rw [show Try.prog.cellsOf 9 = 1 by kernel_rfl] at g1
  obtain ⟨a1, F1, w1, n1⟩ := (dec_str Try.underlying9) H enc w base spare held n _ _ g1
  obtain ⟨y2, e2⟩ := get_some hlen 2 (by decide)
  have g2 := hf 2 _ rfl
  rw [e2] at g2
  replace g2 : DataW.trod enc Try.prog w base spare held n 9 ((cs.drop 2).take (Try.prog.cellsOf 9)) = some y2 := g2
  rw [show Try.prog.cellsOf 9 = 1 by kernel_rfl] at g2
  obtain ⟨a2, F2, w2, n2⟩ := (dec_str Try.underlying9) H enc w base spare held n _ _ g2
  obtain ⟨y3, e3⟩ := get_some hlen 3 (by decide)
  have g3 := hf 3 _ rfl
  rw [e3] at g3
  replace g3 : DataW.trod enc Try.prog w base spare held n 9 ((cs.drop 3).take (Try.prog.cellsOf 9)) = some y3 := g3
  rw [show Try.prog.cellsOf 9 = 1 by kernel_rfl] at g3
  obtain ⟨a3, F3, w3, n3⟩ := (dec_str Try.underlying9) H enc w base spare held n _ _ g3
  have hc : cs = (cparts [1, 1, 1, 1] 0 cs).flatten := cells_parts [1, 1, 1, 1] 0 cs (by rw [hl]; kernel_rfl)
  rw [show cparts [1, 1, 1, 1] 0 cs = [(cs.drop 0).take 1, (cs.drop 1).take 1, (cs.drop 2).take 1, (cs.drop 3).take 1] from rfl, F0, F1, F2, F3] at hc
  refine ⟨⟨a0, a1, a2, a3⟩, hc.trans rfl, ⟨w0, w1, w2, w3⟩, fun R hR m hm => ?_⟩
  simp only [List.mem_append, or_assoc] at hm
  rcases hm with hm | hm | hm | hm
  · exact n0 R (weights_agg Try.underlying42 hR (j := 0) rfl e0) m hm
  · exact n1 R (weights_agg Try.underlying42 hR (j := 1) rfl e1) m hm
  · exact n2 R (weights_agg Try.underlying42 hR (j := 2) rfl e2) m hm
  · exact n3 R (weights_agg Try.underlying42 hR (j := 3) rfl e3) m hm
theorem millSums_own : ownKnob Try.prog.godebug = none := by kernel_rfl
theorem millSums_laidOut : laidOutB Try.prog = true := by kernel_rfl
set_option maxRecDepth 100000 in
theorem millSums_lifted (os : Os) (started : os.Started) (H : Type) (enc : TypeId × Value → H) :
    ReturnsInHanded {} Try.checked os 6 .any (Rows.millSumsSpec.pre6 enc Try.prog Try.f6 Rows.millSumsRow.domain false) (Rows.millSumsSpec.post enc Try.prog Try.f6 false true false false) := by
  refine returnsInHanded_of_change_sized (C := Try.checked) millSums_own started (by kernel_rfl) Try.func6
    (ChangeSpec.witness6 (enc := enc) (C := Try.checked) false ⟨#[], #[.slice none 0 0, .slice none 0 0], []⟩ 8 (by kernel_rfl) (by kernel_rfl) (by kernel_rfl) (by kernel_rfl)) ?_
  intro W base args ds gs before hval0 hW hcnd hsz0 _
  have hsz : (DataW.weightsEach Try.prog (Try.f6.params.toList ++ Rows.millSumsSpec.plain.varTypes Try.prog) (ds ++ gs)).all (· ≤ reachBytes) = true := hsz0
  have hval : ∀ (j : Nat) t v, Try.f6.params[j]? = some t → args[j]? = some v → Value.okWide Try.prog W .any base t v := hval0
  have hW' := hW
  obtain ⟨p, q, hA0, hV, rfl, hfz, hnd⟩ := hW
  have hA : DataW.TrodAll enc Try.prog W 0 (fun _ => true) true Try.f6.params.toList args.toList ds p := hA0
  rw [Try.params6] at hA hval hsz
  obtain ⟨v0, vs0, d0, ds0, p0, q0, hargs, rfl, rfl, h0, r0⟩ := trodAll_cons hA
  obtain ⟨v1, vs1, d1, ds1, p1, q1, rfl, rfl, rfl, h1, r1⟩ := trodAll_cons r0
  obtain ⟨rfl, rfl, rfl⟩ := trodAll_nil r1
  obtain rfl : args = #[v0, v1] := by cases args; simp_all
  obtain ⟨rfl, rfl⟩ := trodVars_none hV
  have k0 := h0
  have lt0 : ∀ x ∈ p0, x.block < W.heap.size := by obtain ⟨m, hm⟩ := k0; exact DataW.trod_lt m _ _ _ hm
  obtain ⟨z0, len0, cap0, hv0⟩ := okWide_slice Try.underlying22 (hval 0 22 v0 rfl rfl)
  obtain ⟨fuel0, hf0⟩ := h0
  obtain ⟨a0, F0, w0, n0⟩ := (dec_slice e_mill_Entry dec_mill_Entry Try.underlying22 (by kernel_rfl)) H enc W 0 _ _ fuel0 _ _ hf0
  obtain ⟨b0, c0, F0, R0⟩ := F0
  obtain rfl : v0 = .slice b0 a0.length c0 := by subst hv0; exact (List.cons.inj F0).1
  have hz0 := sized_dec (N := (a0.length * Try.prog.bytesOf 42 :: a0.flatMap fun y => (([] : List Nat) ++ [y.Key.size] ++ [y.Text.size] ++ [y.Out.size]))) hsz (j := 0) (t := 22) rfl rfl n0
  have k1 := h1
  have lt1 : ∀ x ∈ p1, x.block < W.heap.size := by obtain ⟨m, hm⟩ := k1; exact DataW.trod_lt m _ _ _ hm
  obtain ⟨z1, len1, cap1, hv1⟩ := okWide_slice Try.underlying44 (hval 1 44 v1 rfl rfl)
  obtain ⟨fuel1, hf1⟩ := h1
  obtain ⟨a1, F1, w1, n1⟩ := (dec_slice eStr (dec_str Try.underlying9) Try.underlying44 (by kernel_rfl)) H enc W 0 _ _ fuel1 _ _ hf1
  obtain ⟨b1, c1, F1, R1⟩ := F1
  obtain rfl : v1 = .slice b1 a1.length c1 := by subst hv1; exact (List.cons.inj F1).1
  have hz1 := sized_dec (N := (a1.length * Try.prog.bytesOf 9 :: a1.flatMap fun y => [y.size])) hsz (j := 1) (t := 44) rfl rfl n1
  clear hA0 hval0 hsz0 hsz hval
  have hp := pure_MillSums a0 a1 w0 hz0 w1 hz1
  have tr := c_law03_MillSums (Go.Fw.hp W) a0 a1 b0 c0 b1 c1 true hp R0 R1
  refine (calls_of_tr tr (by first | (rintro r H ⟨rfl, rfl⟩; exact ⟨rfl, _, _, rfl, Hl.sub_refl _⟩) | (rintro r H ⟨J, rfl, rfl, hJ⟩; exact ⟨rfl, _, _, rfl, hJ⟩))).mono fun e W' ⟨he, bel⟩ => ?_
  subst he
  exact ⟨_, rfl, _, _, _, [], _, [], hW', trodAll_mk1 (shut_bool Try.underlying4 _), (trodAll_cons_mk (Below.trod millSums_laidOut (by kernel_rfl) (of_decide_eq_true (by kernel_rfl)) k0 bel lt0) (trodAll_cons_mk (Below.trod millSums_laidOut (by kernel_rfl) (of_decide_eq_true (by kernel_rfl)) k1 bel lt1) trodAll_mk0)), rfl, bel.frame _, (fun h => by cases h)⟩
theorem millSums_holds : Rows.MillSumsSaid :=
  OpenClaim.holds_of_wide 6 Try.f6 rfl rfl rfl rfl rfl rfl rfl ⟨rfl, rfl, rfl, rfl, rfl⟩ rfl rfl rfl rfl rfl (by kernel_rfl) Try.func6 (by kernel_rfl)
    (of_decide_eq_true (by kernel_rfl)) (by unfold Func.isWrapper; first | (rw [if_pos (by decide +kernel)]; kernel_rfl) | (rw [if_neg (by decide +kernel)]; exact ⟨rfl, rfl⟩))
    (fun os started H enc _ => millSums_lifted os started H enc)
end Go.Proofs.Ytgkkgmnomiokbaa
