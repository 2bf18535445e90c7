/- A disk that nobody made does nothing. -/
import Derived.Test.YtbjilfhjclkebaaRows
import Derived.Test.YtbjilfhjclkebaaFwP
import Derived.Test.YtbjilfhjclkebaaPDiskNobody
namespace Go.Proofs.Ytbjilfhjclkebaa
set_option linter.all false
open Go Go.RowKit Go.ChangeShapes Go.WideShapes Go.ChangeAt Go.Fw
open Go.ChangeMaps (open_string shut_string)
set_option linter.unusedVariables false
theorem dec_disk_Fall : Dec Try.prog 34 (fun _ cs (x : disk_Fall) => cs = disk_Fall.cells x) (fun x => ((Lit.int .u64 x.Keep).wf = true) ∧ ((Lit.int .i64 x.Tear).wf = true)) (fun x => (([] : List Nat) ++ ([] : List Nat))) := by
  intro H enc w base spare held fuel cs x h
  obtain ⟨xs, n, _, rfl, hl, hlen, hf⟩ := DataW.trod_struct Try.underlying34 h
  obtain ⟨y0, e0⟩ := get_some hlen 0 (by decide)
  have g0 := hf 0 _ rfl
  rw [e0] at g0
  replace g0 : DataW.trod enc Try.prog w base spare held n 32 ((cs.drop 0).take (Try.prog.cellsOf 32)) = some y0 := g0
  rw [show Try.prog.cellsOf 32 = 1 by kernel_rfl] at g0
  obtain ⟨a0, F0, w0, n0⟩ := (dec_int Try.underlying32) H enc w base spare held n _ _ g0
  obtain ⟨y1, e1⟩ := get_some hlen 1 (by decide)
  have g1 := hf 1 _ rfl
  rw [e1] at g1
  replace g1 : DataW.trod enc Try.prog w base spare held n 3 ((cs.drop 1).take (Try.prog.cellsOf 3)) = some y1 := g1
  rw [show Try.prog.cellsOf 3 = 1 by kernel_rfl] at g1
  obtain ⟨a1, F1, w1, n1⟩ := (dec_int Try.underlying3) H enc w base spare held n _ _ g1
  have hc : cs = (cparts [1, 1] 0 cs).flatten := cells_parts [1, 1] 0 cs (by rw [hl]; kernel_rfl)
  rw [show cparts [1, 1] 0 cs = [(cs.drop 0).take 1, (cs.drop 1).take 1] from rfl, F0, F1] at hc
  refine ⟨⟨a0, a1⟩, hc.trans rfl, ⟨w0, w1⟩, fun R hR m hm => ?_⟩
  simp only [List.mem_append, or_assoc] at hm
  rcases hm with hm | hm
  · exact n0 R (weights_agg Try.underlying34 hR (j := 0) rfl e0) m hm
  · exact n1 R (weights_agg Try.underlying34 hR (j := 1) rfl e1) m hm
theorem diskNobody_own : ownKnob Try.prog.godebug = none := by kernel_rfl
theorem diskNobody_laidOut : laidOutB Try.prog = true := by kernel_rfl
set_option maxRecDepth 100000 in
theorem diskNobody_lifted (os : Os) (started : os.Started) (H : Type) (enc : TypeId × Value → H) :
    ReturnsInHanded {} Try.checked os 5 .any (Rows.diskNobodySpec.pre6 enc Try.prog Try.f5 Rows.diskNobodyRow.domain false) (Rows.diskNobodySpec.post enc Try.prog Try.f5 false true false false) := by
  refine returnsInHanded_of_change_sized (C := Try.checked) diskNobody_own started (by kernel_rfl) Try.func5
    (ChangeSpec.witness6 (enc := enc) (C := Try.checked) false ⟨#[], #[.int .i64 0, .agg #[.int .u64 0, .int .i64 0]], []⟩ 8 (by kernel_rfl) (by kernel_rfl) (by kernel_rfl) (by kernel_rfl)) ?_
  intro W base args ds gs before hval0 hW hcnd hsz0 _
  have hsz : (DataW.weightsEach Try.prog (Try.f5.params.toList ++ Rows.diskNobodySpec.plain.varTypes Try.prog) (ds ++ gs)).all (· ≤ reachBytes) = true := hsz0
  have hval : ∀ (j : Nat) t v, Try.f5.params[j]? = some t → args[j]? = some v → Value.okWide Try.prog W .any base t v := hval0
  have hW' := hW
  obtain ⟨p, q, hA0, hV, rfl, hfz, hnd⟩ := hW
  have hA : DataW.TrodAll enc Try.prog W 0 (fun _ => true) true Try.f5.params.toList args.toList ds p := hA0
  rw [Try.params5] at hA hval hsz
  obtain ⟨v0, vs0, d0, ds0, p0, q0, hargs, rfl, rfl, h0, r0⟩ := trodAll_cons hA
  obtain ⟨v1, vs1, d1, ds1, p1, q1, rfl, rfl, rfl, h1, r1⟩ := trodAll_cons r0
  obtain ⟨rfl, rfl, rfl⟩ := trodAll_nil r1
  obtain rfl : args = #[v0, v1] := by cases args; simp_all
  obtain ⟨rfl, rfl⟩ := trodVars_none hV
  have k0 := h0
  have lt0 : ∀ x ∈ p0, x.block < W.heap.size := by obtain ⟨m, hm⟩ := k0; exact DataW.trod_lt m _ _ _ hm
  obtain ⟨z0, hv0⟩ := okWide_int Try.underlying3 (hval 0 3 v0 rfl rfl)
  obtain ⟨fuel0, hf0⟩ := h0
  obtain ⟨a0, F0, w0, n0⟩ := (dec_int Try.underlying3) H enc W 0 _ _ fuel0 _ _ hf0
  obtain rfl : v0 = .int .i64 a0 := by subst hv0; exact (List.cons.inj F0).1
  have hz0 := sized_dec (N := ([] : List Nat)) hsz (j := 0) (t := 3) rfl rfl n0
  have k1 := h1
  have lt1 : ∀ x ∈ p1, x.block < W.heap.size := by obtain ⟨m, hm⟩ := k1; exact DataW.trod_lt m _ _ _ hm
  obtain ⟨cs1, hv1, _⟩ := okWide_struct Try.underlying34 (hval 1 34 v1 rfl rfl)
  obtain ⟨fuel1, hf1⟩ := h1
  obtain ⟨a1, F1, w1, n1⟩ := dec_disk_Fall H enc W 0 _ _ fuel1 _ _ hf1
  obtain rfl : v1 = .agg #[.int .u64 a1.Keep, .int .i64 a1.Tear] := by subst hv1; exact congrArg Value.agg (arr_of F1)
  have hz1 := sized_dec (N := (([] : List Nat) ++ ([] : List Nat))) hsz (j := 1) (t := 34) rfl rfl n1
  clear hA0 hval0 hsz0 hsz hval
  have hp := pure_DiskNobody a0 a1 w0 hz0 w1 hz1
  have tr := c_law09_DiskNobody (Go.Fw.hp W) a0 a1 true hp
  refine (calls_of_tr tr (by first | (rintro r H ⟨rfl, rfl⟩; exact ⟨rfl, _, _, rfl, Hl.sub_refl _⟩) | (rintro r H ⟨J, rfl, rfl, hJ⟩; exact ⟨rfl, _, _, rfl, hJ⟩))).mono fun e W' ⟨he, bel⟩ => ?_
  subst he
  exact ⟨_, rfl, _, _, _, [], _, [], hW', trodAll_mk1 (shut_bool Try.underlying4 _), (trodAll_cons_mk (Below.trod diskNobody_laidOut (by kernel_rfl) (of_decide_eq_true (by kernel_rfl)) k0 bel lt0) (trodAll_cons_mk (Below.trod diskNobody_laidOut (by kernel_rfl) (of_decide_eq_true (by kernel_rfl)) k1 bel lt1) trodAll_mk0)), rfl, bel.frame _, (fun h => by cases h)⟩
theorem diskNobody_holds : Rows.DiskNobodySaid :=
  OpenClaim.holds_of_wide 5 Try.f5 rfl rfl rfl rfl rfl rfl rfl ⟨rfl, rfl, rfl, rfl, rfl⟩ rfl rfl rfl rfl rfl (by kernel_rfl) Try.func5 (by kernel_rfl)
    (of_decide_eq_true (by kernel_rfl)) (by unfold Func.isWrapper; first | (rw [if_pos (by decide +kernel)]; kernel_rfl) | (rw [if_neg (by decide +kernel)]; exact ⟨rfl, rfl⟩))
    (fun os started H enc _ => diskNobody_lifted os started H enc)
end Go.Proofs.Ytbjilfhjclkebaa
