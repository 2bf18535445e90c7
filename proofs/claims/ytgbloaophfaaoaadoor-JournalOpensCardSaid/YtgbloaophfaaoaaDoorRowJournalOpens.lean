/- Which journals there are, and that one of noughts, or of any seed that nothing hangs to, is empty. -/
import Derived.Test.YtgbloaophfaaoaaDoorRows
import Derived.Test.YtgbloaophfaaoaaDoorFwP
import Derived.Test.YtgbloaophfaaoaaDoorPJournalOpens
import Derived.Test.YtgbloaophfaaoaaDoorCards
import Derived.Test.YtgbloaophfaaoaaDoorTie
import Derived.ProofKit
import Derived.LaidMore
import Derived.Lay
import Derived.OpenShut
import Derived.Stop.Joined
import Derived.SevenTiedAt
namespace Go.Proofs.YtgbloaophfaaoaaDoor
set_option linter.all false
open Go Go.RowKit Go.ChangeShapes Go.WideShapes Go.ChangeAt Go.Fw
open Go.ChangeMaps (open_string shut_string)
set_option linter.unusedVariables false
theorem journalOpens_own : ownKnob Tryd.prog.godebug = none := by kernel_rfl
theorem journalOpens_laidOut : laidOutB Tryd.prog = true := by kernel_rfl
set_option maxRecDepth 100000 in
theorem journalOpens_lifted (os : Os) (started : os.Started) (H : Type) (enc : TypeId × Value → H) :
    ReturnsInHanded {} Tryd.checked os 5 .any (fun w args => (Rows.journalOpensSpec.pre enc Tryd.prog Tryd.f5 Rows.journalOpensRow.domain false w args ∧ laidMetH Tryd.prog Rows.journalOpensRow.laid w) ∧ sizedMet enc Tryd.prog Tryd.f5 (OpenSpec.ofChange Rows.journalOpensSpec) false w args) (Rows.journalOpensSpec.post enc Tryd.prog Tryd.f5 false true false false) := by
  refine returnsInHanded_of_change_and (C := Tryd.checked) (X := fun w _ => laidMetH Tryd.prog Rows.journalOpensRow.laid w) (fun _ _ _ hh h => h.of_heap hh) journalOpens_own started (by kernel_rfl) Tryd.func5
    (ChangeSpec.witness_shaped (enc := enc) (C := Tryd.checked) (os := os) (X := fun w _ => laidMetH Tryd.prog Rows.journalOpensRow.laid w) false (World.laidAll Tryd.prog os Rows.journalOpensRow.laid) #[.int .i64 0, .int .i64 0, .int .i64 0, .int .i64 0, .string ByteArray.empty] 8 (World.laidAll_os _ _ _)
      (World.shaped_of_ZipB (by kernel_rfl) (by kernel_rfl)) (by kernel_rfl) (by kernel_rfl) (by kernel_rfl)
      (by rw [MakeChecks.laidMetH_plain _ _ _ (by kernel_rfl)]; exact laidMet_laidAll _ (by kernel_rfl) (by kernel_rfl))) ?_
  intro W base args ds gs before hval0 hW hcnd hsz0 _ _
  have hsz : (DataW.weightsEach Tryd.prog (Tryd.f5.params.toList ++ Rows.journalOpensSpec.plain.varTypes Tryd.prog) (ds ++ gs)).all (· ≤ reachBytes) = true := hsz0
  have hval : ∀ (j : Nat) t v, Tryd.f5.params[j]? = some t → args[j]? = some v → Value.okWide Tryd.prog W .any base t v := hval0
  have hW' := hW
  obtain ⟨p, q, hA0, hV, rfl, hfz, hnd⟩ := hW
  have hA : DataW.TrodAll enc Tryd.prog W 0 (fun _ => true) true Tryd.f5.params.toList args.toList ds p := hA0
  rw [Tryd.params5] at hA hval hsz
  obtain ⟨v0, vs0, d0, ds0, p0, q0, hargs, rfl, rfl, h0, r0⟩ := trodAll_cons hA
  obtain ⟨v1, vs1, d1, ds1, p1, q1, rfl, rfl, rfl, h1, r1⟩ := trodAll_cons r0
  obtain ⟨v2, vs2, d2, ds2, p2, q2, rfl, rfl, rfl, h2, r2⟩ := trodAll_cons r1
  obtain ⟨v3, vs3, d3, ds3, p3, q3, rfl, rfl, rfl, h3, r3⟩ := trodAll_cons r2
  obtain ⟨v4, vs4, d4, ds4, p4, q4, rfl, rfl, rfl, h4, r4⟩ := trodAll_cons r3
  obtain ⟨rfl, rfl, rfl⟩ := trodAll_nil r4
  obtain rfl : args = #[v0, v1, v2, v3, v4] := by cases args; simp_all
  obtain ⟨rfl, rfl⟩ := trodVars_none hV
  have k0 := h0
  have lt0 : ∀ x ∈ p0, x.block < W.heap.size := by obtain ⟨m, hm⟩ := k0; exact DataW.trod_lt m _ _ _ hm
  obtain ⟨z0, hv0⟩ := okWide_int Tryd.underlying3 (hval 0 3 v0 rfl rfl)
  obtain ⟨fuel0, hf0⟩ := h0
  obtain ⟨a0, F0, w0, n0⟩ := (dec_int Tryd.underlying3) H enc W 0 _ _ fuel0 _ _ hf0
  obtain rfl : v0 = .int .i64 a0 := by subst hv0; exact (List.cons.inj F0).1
  have hz0 := sized_dec (N := ([] : List Nat)) hsz (j := 0) (t := 3) rfl rfl n0
  have k1 := h1
  have lt1 : ∀ x ∈ p1, x.block < W.heap.size := by obtain ⟨m, hm⟩ := k1; exact DataW.trod_lt m _ _ _ hm
  obtain ⟨z1, hv1⟩ := okWide_int Tryd.underlying3 (hval 1 3 v1 rfl rfl)
  obtain ⟨fuel1, hf1⟩ := h1
  obtain ⟨a1, F1, w1, n1⟩ := (dec_int Tryd.underlying3) H enc W 0 _ _ fuel1 _ _ hf1
  obtain rfl : v1 = .int .i64 a1 := by subst hv1; exact (List.cons.inj F1).1
  have hz1 := sized_dec (N := ([] : List Nat)) hsz (j := 1) (t := 3) rfl rfl n1
  have k2 := h2
  have lt2 : ∀ x ∈ p2, x.block < W.heap.size := by obtain ⟨m, hm⟩ := k2; exact DataW.trod_lt m _ _ _ hm
  obtain ⟨z2, hv2⟩ := okWide_int Tryd.underlying3 (hval 2 3 v2 rfl rfl)
  obtain ⟨fuel2, hf2⟩ := h2
  obtain ⟨a2, F2, w2, n2⟩ := (dec_int Tryd.underlying3) H enc W 0 _ _ fuel2 _ _ hf2
  obtain rfl : v2 = .int .i64 a2 := by subst hv2; exact (List.cons.inj F2).1
  have hz2 := sized_dec (N := ([] : List Nat)) hsz (j := 2) (t := 3) rfl rfl n2
  have k3 := h3
  have lt3 : ∀ x ∈ p3, x.block < W.heap.size := by obtain ⟨m, hm⟩ := k3; exact DataW.trod_lt m _ _ _ hm
  obtain ⟨z3, hv3⟩ := okWide_int Tryd.underlying3 (hval 3 3 v3 rfl rfl)
  obtain ⟨fuel3, hf3⟩ := h3
  obtain ⟨a3, F3, w3, n3⟩ := (dec_int Tryd.underlying3) H enc W 0 _ _ fuel3 _ _ hf3
  obtain rfl : v3 = .int .i64 a3 := by subst hv3; exact (List.cons.inj F3).1
  have hz3 := sized_dec (N := ([] : List Nat)) hsz (j := 3) (t := 3) rfl rfl n3
  have k4 := h4
  have lt4 : ∀ x ∈ p4, x.block < W.heap.size := by obtain ⟨m, hm⟩ := k4; exact DataW.trod_lt m _ _ _ hm
  obtain ⟨z4, hv4⟩ := okWide_string Tryd.underlying9 (hval 4 9 v4 rfl rfl)
  obtain ⟨fuel4, hf4⟩ := h4
  obtain ⟨a4, F4, w4, n4⟩ := (dec_str Tryd.underlying9) H enc W 0 _ _ fuel4 _ _ hf4
  obtain rfl : v4 = .string a4 := by subst hv4; exact (List.cons.inj F4).1
  have hz4 := sized_dec (N := [a4.size]) hsz (j := 4) (t := 9) rfl rfl n4
  clear hA0 hval0 hsz0 hsz hval
  have hp := pure_JournalOpens a0 a1 a2 a3 a4 w0 hz0 w1 hz1 w2 hz2 w3 hz3 w4 hz4
  have tr := c_law12_JournalOpens (Go.Fw.hp W) a0 a1 a2 a3 a4 true hp
  refine (calls_of_tr tr (by first | (rintro r H ⟨rfl, rfl⟩; exact ⟨rfl, _, _, rfl, Hl.sub_refl _⟩) | (rintro r H ⟨J, rfl, rfl, hJ⟩; exact ⟨rfl, _, _, rfl, hJ⟩))).mono fun e W' ⟨he, bel⟩ => ?_
  subst he
  exact ⟨_, rfl, _, _, _, [], _, [], hW', trodAll_mk1 (shut_bool Tryd.underlying4 _), (trodAll_cons_mk (Below.trod journalOpens_laidOut (by kernel_rfl) (of_decide_eq_true (by kernel_rfl)) k0 bel lt0) (trodAll_cons_mk (Below.trod journalOpens_laidOut (by kernel_rfl) (of_decide_eq_true (by kernel_rfl)) k1 bel lt1) (trodAll_cons_mk (Below.trod journalOpens_laidOut (by kernel_rfl) (of_decide_eq_true (by kernel_rfl)) k2 bel lt2) (trodAll_cons_mk (Below.trod journalOpens_laidOut (by kernel_rfl) (of_decide_eq_true (by kernel_rfl)) k3 bel lt3) (trodAll_cons_mk (Below.trod journalOpens_laidOut (by kernel_rfl) (of_decide_eq_true (by kernel_rfl)) k4 bel lt4) trodAll_mk0))))), rfl, bel.frame _, (fun h => by cases h)⟩
theorem journalOpens_holds : Rows.JournalOpensSaid :=
  OpenClaim.holds_of_wide 5 Tryd.f5 rfl rfl rfl rfl rfl rfl rfl ⟨rfl, rfl, rfl, rfl, rfl⟩ rfl rfl rfl rfl rfl (by kernel_rfl) Tryd.func5 (by kernel_rfl)
    (of_decide_eq_true (by kernel_rfl)) (by unfold Func.isWrapper; first | (rw [if_pos (by decide +kernel)]; kernel_rfl) | (rw [if_neg (by decide +kernel)]; exact ⟨rfl, rfl⟩))
    (fun os started H enc _ => journalOpens_lifted os started H enc)
theorem journalOpens_card_holds : Rows.JournalOpensCardSaid :=
  Claim7.holds_tied_plain_at .later [] [.data, .pinned] true (true, "f74bacc6d032faba538ab45d0f807e86cb40a4b878eee786bfe753b8fa227651") false
    journalOpens_holds (fun _ h => by cases h) (by kernel_rfl) (fun _ h => by cases h) journalOpens_row_tie rfl ⟨rfl, rfl⟩ (by kernel_rfl) rfl
    (fun f fn hf hfn => by
      obtain rfl : f = 5 := Option.some.inj ((show Tryd.prog.funcNamed "chartulary/chartularylaw12.JournalOpens" = some 5 by kernel_rfl).symm.trans hf) |>.symm
      obtain rfl : fn = Tryd.f5 := (Option.some.inj (Tryd.func5.symm.trans hfn)).symm
      exact ⟨by kernel_rfl, fun j t ht => by
        rw [Tryd.params5] at ht
        have hm : t ∈ [3, 3, 3, 3, 9] := by simpa using Array.mem_of_getElem? ht
        have hall : ([3, 3, 3, 3, 9].all fun u => !Tryd.prog.wantsStandIn u) = true := by kernel_rfl
        exact (show Tryd.prog.wantsStandIn t = false by simpa using List.all_eq_true.1 hall t hm)⟩)
    (by kernel_rfl)
end Go.Proofs.YtgbloaophfaaoaaDoor
