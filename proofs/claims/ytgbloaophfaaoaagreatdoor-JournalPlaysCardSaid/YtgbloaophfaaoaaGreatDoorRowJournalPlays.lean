/- Whatever is appended and flushed, and whenever the power goes, a journal has what lasted, whole and in order, and perhaps some of what came behind. -/
import Derived.Test.YtgbloaophfaaoaaGreatDoorRows
import Derived.Test.YtgbloaophfaaoaaGreatDoorFwN
import Derived.Test.YtgbloaophfaaoaaGreatDoorPJournalPlays
import Derived.Test.YtgbloaophfaaoaaGreatDoorCards
import Derived.Test.YtgbloaophfaaoaaGreatDoorTie
import Derived.ProofKit
import Derived.LaidMore
import Derived.Lay
import Derived.OpenShut
import Derived.Stop.Joined
import Derived.SevenTiedAt
namespace Go.Proofs.YtgbloaophfaaoaaGreatDoor
set_option linter.all false
open Go Go.RowKit Go.ChangeShapes Go.WideShapes Go.ChangeAt Go.Fw
open Go.ChangeMaps (open_string shut_string)
set_option linter.unusedVariables false
theorem dec_disk_Fall : Dec Tryz.prog 35 (fun _ cs (x : disk_Fall) => cs = disk_Fall.cells x) (fun x => ((Lit.int .u64 x.Keep).wf = true) ∧ ((Lit.int .i64 x.Tear).wf = true)) (fun x => (([] : List Nat) ++ ([] : List Nat))) := by
  intro H enc w base spare held fuel cs x h
  obtain ⟨xs, n, _, rfl, hl, hlen, hf⟩ := DataW.trod_struct Tryz.underlying35 h
  obtain ⟨y0, e0⟩ := get_some hlen 0 (by decide)
  have g0 := hf 0 _ rfl
  rw [e0] at g0
  replace g0 : DataW.trod enc Tryz.prog w base spare held n 33 ((cs.drop 0).take (Tryz.prog.cellsOf 33)) = some y0 := g0
  rw [show Tryz.prog.cellsOf 33 = 1 by kernel_rfl] at g0
  obtain ⟨a0, F0, w0, n0⟩ := (dec_int Tryz.underlying33) H enc w base spare held n _ _ g0
  obtain ⟨y1, e1⟩ := get_some hlen 1 (by decide)
  have g1 := hf 1 _ rfl
  rw [e1] at g1
  replace g1 : DataW.trod enc Tryz.prog w base spare held n 3 ((cs.drop 1).take (Tryz.prog.cellsOf 3)) = some y1 := g1
  rw [show Tryz.prog.cellsOf 3 = 1 by kernel_rfl] at g1
  obtain ⟨a1, F1, w1, n1⟩ := (dec_int Tryz.underlying3) H enc w base spare held n _ _ g1
  have hc : cs = (cparts [1, 1] 0 cs).flatten := cells_parts [1, 1] 0 cs (by rw [hl]; kernel_rfl)
  rw [show cparts [1, 1] 0 cs = [(cs.drop 0).take 1, (cs.drop 1).take 1] from rfl, F0, F1] at hc
  refine ⟨⟨a0, a1⟩, hc.trans rfl, ⟨w0, w1⟩, fun R hR m hm => ?_⟩
  try dsimp only at hm
  rcases List.mem_append.1 hm with hm | hm
  rotate_left
  · exact n1 R (weights_agg Tryz.underlying35 hR (j := 1) rfl e1) m hm
  exact n0 R (weights_agg Tryz.underlying35 hR (j := 0) rfl e0) m hm
theorem dec_law12_Op : Dec Tryz.prog 37 (fun _ cs (x : law12_Op) => cs = law12_Op.cells x) (fun x => ((Lit.int .i64 x.Kind).wf = true) ∧ ((Lit.int .i64 x.Long).wf = true) ∧ ((Lit.int .u8 x.C).wf = true) ∧ (((Lit.int .u64 x.F.Keep).wf = true) ∧ ((Lit.int .i64 x.F.Tear).wf = true))) (fun x => (([] : List Nat) ++ ([] : List Nat) ++ ([] : List Nat) ++ (([] : List Nat) ++ ([] : List Nat)))) := by
  intro H enc w base spare held fuel cs x h
  obtain ⟨xs, n, _, rfl, hl, hlen, hf⟩ := DataW.trod_struct Tryz.underlying37 h
  obtain ⟨y0, e0⟩ := get_some hlen 0 (by decide)
  have g0 := hf 0 _ rfl
  rw [e0] at g0
  replace g0 : DataW.trod enc Tryz.prog w base spare held n 3 ((cs.drop 0).take (Tryz.prog.cellsOf 3)) = some y0 := g0
  rw [show Tryz.prog.cellsOf 3 = 1 by kernel_rfl] at g0
  obtain ⟨a0, F0, w0, n0⟩ := (dec_int Tryz.underlying3) H enc w base spare held n _ _ g0
  obtain ⟨y1, e1⟩ := get_some hlen 1 (by decide)
  have g1 := hf 1 _ rfl
  rw [e1] at g1
  replace g1 : DataW.trod enc Tryz.prog w base spare held n 3 ((cs.drop 1).take (Tryz.prog.cellsOf 3)) = some y1 := g1
  rw [show Tryz.prog.cellsOf 3 = 1 by kernel_rfl] at g1
  obtain ⟨a1, F1, w1, n1⟩ := (dec_int Tryz.underlying3) H enc w base spare held n _ _ g1
  obtain ⟨y2, e2⟩ := get_some hlen 2 (by decide)
  have g2 := hf 2 _ rfl
  rw [e2] at g2
  replace g2 : DataW.trod enc Tryz.prog w base spare held n 5 ((cs.drop 2).take (Tryz.prog.cellsOf 5)) = some y2 := g2
  rw [show Tryz.prog.cellsOf 5 = 1 by kernel_rfl] at g2
  obtain ⟨a2, F2, w2, n2⟩ := (dec_int Tryz.underlying5) H enc w base spare held n _ _ g2
  obtain ⟨y3, e3⟩ := get_some hlen 3 (by decide)
  have g3 := hf 3 _ rfl
  rw [e3] at g3
  replace g3 : DataW.trod enc Tryz.prog w base spare held n 35 ((cs.drop 3).take (Tryz.prog.cellsOf 35)) = some y3 := g3
  rw [show Tryz.prog.cellsOf 35 = 2 by kernel_rfl] at g3
  obtain ⟨a3, F3, w3, n3⟩ := dec_disk_Fall H enc w base spare held n _ _ g3
  have hc : cs = (cparts [1, 1, 1, 2] 0 cs).flatten := cells_parts [1, 1, 1, 2] 0 cs (by rw [hl]; kernel_rfl)
  rw [show cparts [1, 1, 1, 2] 0 cs = [(cs.drop 0).take 1, (cs.drop 1).take 1, (cs.drop 2).take 1, (cs.drop 3).take 2] from rfl, F0, F1, F2, F3] at hc
  refine ⟨⟨a0, a1, a2, a3⟩, hc.trans rfl, ⟨w0, w1, w2, w3⟩, fun R hR m hm => ?_⟩
  try dsimp only at hm
  rcases List.mem_append.1 hm with hm | hm
  rotate_left
  · exact n3 R (weights_agg Tryz.underlying37 hR (j := 3) rfl e3) m hm
  rcases List.mem_append.1 hm with hm | hm
  rotate_left
  · exact n2 R (weights_agg Tryz.underlying37 hR (j := 2) rfl e2) m hm
  rcases List.mem_append.1 hm with hm | hm
  rotate_left
  · exact n1 R (weights_agg Tryz.underlying37 hR (j := 1) rfl e1) m hm
  exact n0 R (weights_agg Tryz.underlying37 hR (j := 0) rfl e0) m hm
theorem journalPlays_own : ownKnob Tryz.prog.godebug = none := by kernel_rfl
theorem journalPlays_laidOut : laidOutB Tryz.prog = true := by kernel_rfl
set_option maxRecDepth 100000 in
theorem journalPlays_lifted (os : Os) (started : os.Started) (H : Type) (enc : TypeId × Value → H) :
    ReturnsInHanded {} Tryz.checked os 3 .any (fun w args => (Rows.journalPlaysSpec.pre enc Tryz.prog Tryz.f3 Rows.journalPlaysRow.domain false w args ∧ laidMetH Tryz.prog Rows.journalPlaysRow.laid w) ∧ sizedMet enc Tryz.prog Tryz.f3 (OpenSpec.ofChange Rows.journalPlaysSpec) false w args) (Rows.journalPlaysSpec.post enc Tryz.prog Tryz.f3 false true false false) := by
  refine returnsInHanded_of_change_and (C := Tryz.checked) (X := fun w _ => laidMetH Tryz.prog Rows.journalPlaysRow.laid w) (fun _ _ _ hh h => h.of_heap hh) journalPlays_own started (by kernel_rfl) Tryz.func3
    (ChangeSpec.witness_shaped (enc := enc) (C := Tryz.checked) (os := os) (X := fun w _ => laidMetH Tryz.prog Rows.journalPlaysRow.laid w) false (World.laidAll Tryz.prog os Rows.journalPlaysRow.laid) #[.slice none 0 0] 8 (World.laidAll_os _ _ _)
      (World.shaped_of_ZipB (by kernel_rfl) (by kernel_rfl)) (by kernel_rfl) (by kernel_rfl) (by kernel_rfl)
      (by rw [MakeChecks.laidMetH_plain _ _ _ (by kernel_rfl)]; exact laidMet_laidAll _ (by kernel_rfl) (by kernel_rfl))) ?_
  intro W base args ds gs before hval0 hW hcnd hsz0 _ _
  have hsz : (DataW.weightsEach Tryz.prog (Tryz.f3.params.toList ++ Rows.journalPlaysSpec.plain.varTypes Tryz.prog) (ds ++ gs)).all (· ≤ reachBytes) = true := hsz0
  have hval : ∀ (j : Nat) t v, Tryz.f3.params[j]? = some t → args[j]? = some v → Value.okWide Tryz.prog W .any base t v := hval0
  have hW' := hW
  obtain ⟨p, q, hA0, hV, rfl, hfz, hnd⟩ := hW
  have hA : DataW.TrodAll enc Tryz.prog W 0 (fun _ => true) true Tryz.f3.params.toList args.toList ds p := hA0
  rw [Tryz.params3] at hA hval hsz
  obtain ⟨v0, vs0, d0, ds0, p0, q0, hargs, rfl, rfl, h0, r0⟩ := trodAll_cons hA
  obtain ⟨rfl, rfl, rfl⟩ := trodAll_nil r0
  obtain rfl : args = #[v0] := by cases args; simp_all
  obtain ⟨rfl, rfl⟩ := trodVars_none hV
  have k0 := h0
  have lt0 : ∀ x ∈ p0, x.block < W.heap.size := by obtain ⟨m, hm⟩ := k0; exact DataW.trod_lt m _ _ _ hm
  obtain ⟨z0, len0, cap0, hv0⟩ := okWide_slice Tryz.underlying22 (hval 0 22 v0 rfl rfl)
  obtain ⟨fuel0, hf0⟩ := h0
  obtain ⟨a0, F0, w0, n0⟩ := (dec_slice e_law12_Op dec_law12_Op Tryz.underlying22 (by kernel_rfl)) H enc W 0 _ _ fuel0 _ _ hf0
  obtain ⟨b0, c0, F0, R0⟩ := F0
  obtain rfl : v0 = .slice b0 a0.length c0 := by subst hv0; exact (List.cons.inj F0).1
  have hz0 := sized_dec (N := (a0.length * Tryz.prog.bytesOf 37 :: a0.flatMap fun y => (([] : List Nat) ++ ([] : List Nat) ++ ([] : List Nat) ++ (([] : List Nat) ++ ([] : List Nat))))) hsz (j := 0) (t := 22) rfl rfl n0
  clear hA0 hval0 hsz0 hsz hval
  have hp := pure_JournalPlays a0 w0 hz0
  have tr := c_law12_JournalPlays (Go.Fw.hp W) a0 b0 c0 true hp R0
  refine (calls_of_tr tr (by first | (rintro r H ⟨rfl, rfl⟩; exact ⟨rfl, _, _, rfl, Hl.sub_refl _⟩) | (rintro r H ⟨J, rfl, rfl, hJ⟩; exact ⟨rfl, _, _, rfl, hJ⟩))).mono fun e W' ⟨he, bel⟩ => ?_
  subst he
  exact ⟨_, rfl, _, _, _, [], _, [], hW', trodAll_mk1 (shut_bool Tryz.underlying4 _), (trodAll_cons_mk (Below.trod journalPlays_laidOut (by kernel_rfl) (of_decide_eq_true (by kernel_rfl)) k0 bel lt0) trodAll_mk0), rfl, bel.frame _, (fun h => by cases h)⟩
theorem journalPlays_holds : Rows.JournalPlaysSaid :=
  OpenClaim.holds_of_wide 3 Tryz.f3 rfl rfl rfl rfl rfl rfl rfl ⟨rfl, rfl, rfl, rfl, rfl⟩ rfl rfl rfl rfl rfl (by kernel_rfl) Tryz.func3 (by kernel_rfl)
    (of_decide_eq_true (by kernel_rfl)) (by unfold Func.isWrapper; first | (rw [if_pos (by decide +kernel)]; kernel_rfl) | (rw [if_neg (by decide +kernel)]; exact ⟨rfl, rfl⟩))
    (fun os started H enc _ => journalPlays_lifted os started H enc)
theorem journalPlays_card_holds : Rows.JournalPlaysCardSaid :=
  Claim7.holds_tied_plain_at .later [] [.data, .pinned] true (true, "08940377650e82edf3bcdfdc88bedb00788ad030cf41fefd104ab457bf088234") false
    journalPlays_holds (fun _ h => by cases h) (by kernel_rfl) (fun _ h => by cases h) journalPlays_row_tie rfl ⟨rfl, rfl⟩ (by kernel_rfl) rfl
    (fun f fn hf hfn => by
      obtain rfl : f = 3 := Option.some.inj ((show Tryz.prog.funcNamed "chartulary/chartularylaw12.JournalPlays" = some 3 by kernel_rfl).symm.trans hf) |>.symm
      obtain rfl : fn = Tryz.f3 := (Option.some.inj (Tryz.func3.symm.trans hfn)).symm
      exact ⟨by kernel_rfl, fun j t ht => by
        rw [Tryz.params3] at ht
        have hm : t ∈ [22] := by simpa using Array.mem_of_getElem? ht
        have hall : ([22].all fun u => !Tryz.prog.wantsStandIn u) = true := by kernel_rfl
        exact (show Tryz.prog.wantsStandIn t = false by simpa using List.all_eq_true.1 hall t hm)⟩)
    (by kernel_rfl)
end Go.Proofs.YtgbloaophfaaoaaGreatDoor
