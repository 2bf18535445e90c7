/- Nothing of a key that was shredded is left on the disk, whatever becomes of what is written behind. -/
import Derived.Test.YtilpkebkhibpeaaDoorRows
import Derived.Test.YtilpkebkhibpeaaDoorFwP
import Derived.Test.YtilpkebkhibpeaaDoorPKeyringShreds
import Derived.Test.YtilpkebkhibpeaaDoorCards
import Derived.Test.YtilpkebkhibpeaaDoorTie
import Derived.ProofKit
import Derived.LaidMore
import Derived.Lay
import Derived.OpenShut
import Derived.Stop.Joined
import Derived.SevenTiedAt
namespace Go.Proofs.YtilpkebkhibpeaaDoor
set_option linter.all false
open Go Go.RowKit Go.ChangeShapes Go.WideShapes Go.ChangeAt Go.Fw
open Go.ChangeMaps (open_string shut_string)
set_option linter.unusedVariables false
theorem dec_disk_Fall : Dec Tryd.prog 40 (fun _ cs (x : disk_Fall) => cs = disk_Fall.cells x) (fun x => ((Lit.int .u64 x.Keep).wf = true) ∧ ((Lit.int .i64 x.Tear).wf = true)) (fun x => (([] : List Nat) ++ ([] : List Nat))) := by
  intro H enc w base spare held fuel cs x h
  obtain ⟨xs, n, _, rfl, hl, hlen, hf⟩ := DataW.trod_struct Tryd.underlying40 h
  obtain ⟨y0, e0⟩ := get_some hlen 0 (by decide)
  have g0 := hf 0 _ rfl
  rw [e0] at g0
  replace g0 : DataW.trod enc Tryd.prog w base spare held n 38 ((cs.drop 0).take (Tryd.prog.cellsOf 38)) = some y0 := g0
  rw [show Tryd.prog.cellsOf 38 = 1 by kernel_rfl] at g0
  obtain ⟨a0, F0, w0, n0⟩ := (dec_int Tryd.underlying38) H enc w base spare held n _ _ g0
  obtain ⟨y1, e1⟩ := get_some hlen 1 (by decide)
  have g1 := hf 1 _ rfl
  rw [e1] at g1
  replace g1 : DataW.trod enc Tryd.prog w base spare held n 3 ((cs.drop 1).take (Tryd.prog.cellsOf 3)) = some y1 := g1
  rw [show Tryd.prog.cellsOf 3 = 1 by kernel_rfl] at g1
  obtain ⟨a1, F1, w1, n1⟩ := (dec_int Tryd.underlying3) H enc w base spare held n _ _ g1
  have hc : cs = (cparts [1, 1] 0 cs).flatten := cells_parts [1, 1] 0 cs (by rw [hl]; kernel_rfl)
  rw [show cparts [1, 1] 0 cs = [(cs.drop 0).take 1, (cs.drop 1).take 1] from rfl, F0, F1] at hc
  refine ⟨⟨a0, a1⟩, hc.trans rfl, ⟨w0, w1⟩, fun R hR m hm => ?_⟩
  simp only [List.mem_append, or_assoc] at hm
  rcases hm with hm | hm
  · exact n0 R (weights_agg Tryd.underlying40 hR (j := 0) rfl e0) m hm
  · exact n1 R (weights_agg Tryd.underlying40 hR (j := 1) rfl e1) m hm
theorem keyringShreds_own : ownKnob Tryd.prog.godebug = none := by kernel_rfl
theorem keyringShreds_laidOut : laidOutB Tryd.prog = true := by kernel_rfl
set_option maxRecDepth 100000 in
theorem keyringShreds_lifted (os : Os) (started : os.Started) (H : Type) (enc : TypeId × Value → H) :
    ReturnsInHanded {} Tryd.checked os 4 .any (fun w args => (Rows.keyringShredsSpec.pre enc Tryd.prog Tryd.f4 Rows.keyringShredsRow.domain false w args ∧ laidMetH Tryd.prog Rows.keyringShredsRow.laid w) ∧ sizedMet enc Tryd.prog Tryd.f4 (OpenSpec.ofChange Rows.keyringShredsSpec) false w args) (Rows.keyringShredsSpec.post enc Tryd.prog Tryd.f4 false true false false) := by
  refine returnsInHanded_of_change_and (C := Tryd.checked) (X := fun w _ => laidMetH Tryd.prog Rows.keyringShredsRow.laid w) (fun _ _ _ hh h => h.of_heap hh) keyringShreds_own started (by kernel_rfl) Tryd.func4
    (ChangeSpec.witness_shaped (enc := enc) (C := Tryd.checked) (os := os) (X := fun w _ => laidMetH Tryd.prog Rows.keyringShredsRow.laid w) false (World.laidAll Tryd.prog os Rows.keyringShredsRow.laid) #[.int .i64 0, .int .u8 0, .int .u8 0, .agg #[.int .u64 0, .int .i64 0]] 8 (World.laidAll_os _ _ _)
      (World.shaped_of_ZipB (by kernel_rfl) (by kernel_rfl)) (by kernel_rfl) (by kernel_rfl) (by kernel_rfl)
      (by rw [MakeChecks.laidMetH_plain _ _ _ (by kernel_rfl)]; exact laidMet_laidAll _ (by kernel_rfl) (by kernel_rfl))) ?_
  intro W base args ds gs before hval0 hW hcnd hsz0 _ _
  have hsz : (DataW.weightsEach Tryd.prog (Tryd.f4.params.toList ++ Rows.keyringShredsSpec.plain.varTypes Tryd.prog) (ds ++ gs)).all (· ≤ reachBytes) = true := hsz0
  have hval : ∀ (j : Nat) t v, Tryd.f4.params[j]? = some t → args[j]? = some v → Value.okWide Tryd.prog W .any base t v := hval0
  have hW' := hW
  obtain ⟨p, q, hA0, hV, rfl, hfz, hnd⟩ := hW
  have hA : DataW.TrodAll enc Tryd.prog W 0 (fun _ => true) true Tryd.f4.params.toList args.toList ds p := hA0
  rw [Tryd.params4] at hA hval hsz
  obtain ⟨v0, vs0, d0, ds0, p0, q0, hargs, rfl, rfl, h0, r0⟩ := trodAll_cons hA
  obtain ⟨v1, vs1, d1, ds1, p1, q1, rfl, rfl, rfl, h1, r1⟩ := trodAll_cons r0
  obtain ⟨v2, vs2, d2, ds2, p2, q2, rfl, rfl, rfl, h2, r2⟩ := trodAll_cons r1
  obtain ⟨v3, vs3, d3, ds3, p3, q3, rfl, rfl, rfl, h3, r3⟩ := trodAll_cons r2
  obtain ⟨rfl, rfl, rfl⟩ := trodAll_nil r3
  obtain rfl : args = #[v0, v1, v2, v3] := by cases args; simp_all
  obtain ⟨rfl, rfl⟩ := trodVars_none hV
  have k0 := h0
  have lt0 : ∀ x ∈ p0, x.block < W.heap.size := by obtain ⟨m, hm⟩ := k0; exact DataW.trod_lt m _ _ _ hm
  obtain ⟨z0, hv0⟩ := okWide_int Tryd.underlying3 (hval 0 3 v0 rfl rfl)
  obtain ⟨fuel0, hf0⟩ := h0
  obtain ⟨a0, F0, w0, n0⟩ := (dec_int Tryd.underlying3) H enc W 0 _ _ fuel0 _ _ hf0
  obtain rfl : v0 = .int .i64 a0 := by subst hv0; exact (List.cons.inj F0).1
  have hz0 := sized_dec (N := ([] : List Nat)) hsz (j := 0) (t := 3) rfl rfl n0
  have k1 := h1
  have lt1 : ∀ x ∈ p1, x.block < W.heap.size := by obtain ⟨m, hm⟩ := k1; exact DataW.trod_lt m _ _ _ hm
  obtain ⟨z1, hv1⟩ := okWide_int Tryd.underlying5 (hval 1 5 v1 rfl rfl)
  obtain ⟨fuel1, hf1⟩ := h1
  obtain ⟨a1, F1, w1, n1⟩ := (dec_int Tryd.underlying5) H enc W 0 _ _ fuel1 _ _ hf1
  obtain rfl : v1 = .int .u8 a1 := by subst hv1; exact (List.cons.inj F1).1
  have hz1 := sized_dec (N := ([] : List Nat)) hsz (j := 1) (t := 5) rfl rfl n1
  have k2 := h2
  have lt2 : ∀ x ∈ p2, x.block < W.heap.size := by obtain ⟨m, hm⟩ := k2; exact DataW.trod_lt m _ _ _ hm
  obtain ⟨z2, hv2⟩ := okWide_int Tryd.underlying5 (hval 2 5 v2 rfl rfl)
  obtain ⟨fuel2, hf2⟩ := h2
  obtain ⟨a2, F2, w2, n2⟩ := (dec_int Tryd.underlying5) H enc W 0 _ _ fuel2 _ _ hf2
  obtain rfl : v2 = .int .u8 a2 := by subst hv2; exact (List.cons.inj F2).1
  have hz2 := sized_dec (N := ([] : List Nat)) hsz (j := 2) (t := 5) rfl rfl n2
  have k3 := h3
  have lt3 : ∀ x ∈ p3, x.block < W.heap.size := by obtain ⟨m, hm⟩ := k3; exact DataW.trod_lt m _ _ _ hm
  obtain ⟨cs3, hv3, _⟩ := okWide_struct Tryd.underlying40 (hval 3 40 v3 rfl rfl)
  obtain ⟨fuel3, hf3⟩ := h3
  obtain ⟨a3, F3, w3, n3⟩ := dec_disk_Fall H enc W 0 _ _ fuel3 _ _ hf3
  obtain rfl : v3 = .agg #[.int .u64 a3.Keep, .int .i64 a3.Tear] := by subst hv3; exact congrArg Value.agg (arr_of F3)
  have hz3 := sized_dec (N := (([] : List Nat) ++ ([] : List Nat))) hsz (j := 3) (t := 40) rfl rfl n3
  clear hA0 hval0 hsz0 hsz hval
  have hp := pure_KeyringShreds a0 a1 a2 a3 w0 hz0 w1 hz1 w2 hz2 w3 hz3
  have tr := c_law13_KeyringShreds (Go.Fw.hp W) a0 a1 a2 a3 true hp
  refine (calls_of_tr tr (by first | (rintro r H ⟨rfl, rfl⟩; exact ⟨rfl, _, _, rfl, Hl.sub_refl _⟩) | (rintro r H ⟨J, rfl, rfl, hJ⟩; exact ⟨rfl, _, _, rfl, hJ⟩))).mono fun e W' ⟨he, bel⟩ => ?_
  subst he
  exact ⟨_, rfl, _, _, _, [], _, [], hW', trodAll_mk1 (shut_bool Tryd.underlying4 _), (trodAll_cons_mk (Below.trod keyringShreds_laidOut (by kernel_rfl) (of_decide_eq_true (by kernel_rfl)) k0 bel lt0) (trodAll_cons_mk (Below.trod keyringShreds_laidOut (by kernel_rfl) (of_decide_eq_true (by kernel_rfl)) k1 bel lt1) (trodAll_cons_mk (Below.trod keyringShreds_laidOut (by kernel_rfl) (of_decide_eq_true (by kernel_rfl)) k2 bel lt2) (trodAll_cons_mk (Below.trod keyringShreds_laidOut (by kernel_rfl) (of_decide_eq_true (by kernel_rfl)) k3 bel lt3) trodAll_mk0)))), rfl, bel.frame _, (fun h => by cases h)⟩
theorem keyringShreds_holds : Rows.KeyringShredsSaid :=
  OpenClaim.holds_of_wide 4 Tryd.f4 rfl rfl rfl rfl rfl rfl rfl ⟨rfl, rfl, rfl, rfl, rfl⟩ rfl rfl rfl rfl rfl (by kernel_rfl) Tryd.func4 (by kernel_rfl)
    (of_decide_eq_true (by kernel_rfl)) (by unfold Func.isWrapper; first | (rw [if_pos (by decide +kernel)]; kernel_rfl) | (rw [if_neg (by decide +kernel)]; exact ⟨rfl, rfl⟩))
    (fun os started H enc _ => keyringShreds_lifted os started H enc)
theorem keyringShreds_card_holds : Rows.KeyringShredsCardSaid :=
  Claim7.holds_tied_plain_at .later [] [.data, .pinned] true (true, "afd19ef4cac23fa0f0a25b7c5395ff37e00aa6f5a5b14eea1928ce06452eaf2f") false
    keyringShreds_holds (fun _ h => by cases h) (by kernel_rfl) (fun _ h => by cases h) keyringShreds_row_tie rfl ⟨rfl, rfl⟩ (by kernel_rfl) rfl
    (fun f fn hf hfn => by
      obtain rfl : f = 4 := Option.some.inj ((show Tryd.prog.funcNamed "chartulary/chartularylaw13.KeyringShreds" = some 4 by kernel_rfl).symm.trans hf) |>.symm
      obtain rfl : fn = Tryd.f4 := (Option.some.inj (Tryd.func4.symm.trans hfn)).symm
      exact ⟨by kernel_rfl, fun j t ht => by
        rw [Tryd.params4] at ht
        have hm : t ∈ [3, 5, 5, 40] := by simpa using Array.mem_of_getElem? ht
        have hall : ([3, 5, 5, 40].all fun u => !Tryd.prog.wantsStandIn u) = true := by kernel_rfl
        exact (show Tryd.prog.wantsStandIn t = false by simpa using List.all_eq_true.1 hall t hm)⟩)
    (by kernel_rfl)
end Go.Proofs.YtilpkebkhibpeaaDoor
