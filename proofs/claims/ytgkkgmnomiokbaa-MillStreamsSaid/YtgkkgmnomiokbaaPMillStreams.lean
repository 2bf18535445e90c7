/- Which bytes a key makes of a label, and any text veiled, and veiled again: the plain law. -/
import Derived.Test.YtgkkgmnomiokbaaGStreams
import Derived.Test.YtgkkgmnomiokbaaPLaw03
import Derived.Test.YtgkkgmnomiokbaaPAwake03
namespace Go.Proofs.Ytgkkgmnomiokbaa
set_option linter.all false
open Go Go.RowKit Go.Fw
set_option maxRecDepth 100000
attribute [local irreducible] FUEL
theorem cut300 (s : ByteArray) : (if decide ((s.size : Int) > 300) then (chk (0 ≤ (0 : Int) ∧ (0 : Int) ≤ (300 : Int) ∧ (300 : Int) ≤ (s.size : Int)) (some ((s.extract (0 : Int).toNat (300 : Int).toNat)))) else (some s)) = some (if 300 < s.size then s.extract 0 300 else s) := by
  by_cases h : 300 < s.size
  · rw [if_pos (by simp; omega), chk_pos (by omega), if_pos h]; rfl
  · rw [if_neg (by simp; omega), if_neg h]
theorem cut300_size (s : ByteArray) : (if 300 < s.size then s.extract 0 300 else s).size ≤ 300 := by
  split
  · rw [extract_size (by omega)]; omega
  · omega
theorem cntL_eq {i : Nat} (hi : i < 1000) : bstr ([IntKind.u8.wrap (IntKind.i64.wrap ((i : Int).tdiv 256)), IntKind.u8.wrap ((i : Int).tmod 256)] : List Int) = cnt i := by
  have e1 : (i : Int).tdiv 256 = ((i / 256 : Nat) : Int) := rfl
  have e2 : (i : Int).tmod 256 = ((i % 256 : Nat) : Int) := rfl
  rw [e1, e2, w64 (by omega) (by omega), u8w, u8w]
  have e3 : UInt8.ofNat (i % 256) = UInt8.ofNat i := by apply UInt8.toNat_inj.1; simp
  rw [e3]
  exact bstr_ns [UInt8.ofNat (i / 256), UInt8.ofNat i]
theorem pure_MillStreams (x0 : List mill_Entry) (x1 x2 x3 : ByteArray) {k0 : Nat} {w0 w1 w2 w3 : Prop} (_ : w0) (z0 : ∀ n ∈ (x0.length * k0 :: x0.flatMap fun y => (([] : List Nat) ++ [y.Key.size] ++ [y.Text.size] ++ [y.Out.size])), n ≤ 140737488351232)
    (_ : w1) (z1 : ∀ n ∈ [x1.size], n ≤ 140737488351232) (_ : w2) (z2 : ∀ n ∈ [x2.size], n ≤ 140737488351232) (_ : w3) (z3 : ∀ n ∈ [x3.size], n ≤ 140737488351232) : F.law03_MillStreams x0 x1 x2 x3 = some true := by
  have z1 := z1 _ (List.mem_singleton.2 rfl)
  have z2 := z2 _ (List.mem_singleton.2 rfl)
  obtain ⟨hsz, hlen⟩ := sized_of z0
  unfold F.law03_MillStreams
  rw [few_eq, Option.bind_some]
  refine (congrArg (fun o => Option.bind o _) (cut300 x3)).trans ?_
  rw [Option.bind_some]
  have hs := cut300_size x3
  generalize (if 300 < x3.size then x3.extract 0 300 else x3) = s at hs
  unfold F.law03_MillStreams.r1
  generalize x0.take 10 = l at hsz hlen
  rw [with_eq hsz hlen, Option.bind_some]
  cases h32 : all32 l with
  | false =>
    simp only [Bool.false_eq_true, if_false, optC_none]
    rw [if_pos (by decide), Option.bind_some]
    unfold F.law03_MillStreams.r2
    rw [right_eq hlen, h32, Option.bind_some, if_pos (by decide), awake]; rfl
  | true =>
    simp only [if_true, optC_some]
    rw [if_neg (by decide), Option.bind_some]
    unfold F.law03_MillStreams.r3
    rw [if_neg Bool.false_ne_true, thru_inl]
    unfold F.law03_MillStreams.r4
    have hT : T32 (tabOf l) := tagB_size h32
    have h := iter_count (f := fun x => F.law03_MillStreams.l5 x1 x2 l s x.1 x.2) (fun i => (blocks (tabOf l) x1 x2 i, (i : Int))) (n := (s.size + 31) / 32) (r := blocks (tabOf l) x1 x2 ((s.size + 31) / 32))
      (fun i hi => by
        dsimp only
        unfold F.law03_MillStreams.l5
        rw [blocks_size hT, if_pos (by simp; omega), cntL_eq (by omega), cnt_size, chk_pos (by omega), ltag_eq hlen hsz (by omega) (by rw [size_app, cnt_size]; omega), Option.bind_some, hT, chk_pos (by omega), wadd (by omega)]
        rfl)
      (by
        dsimp only
        unfold F.law03_MillStreams.l5
        rw [blocks_size hT, if_neg (by simp; omega)]) (k := FUEL) (by rw [FUEL_eq]; omega)
    refine (congrArg (fun o => Option.bind o _) h).trans ?_
    rw [Option.bind_some]
    unfold F.law03_MillStreams.r6
    rw [chk_pos (by rw [blocks_size hT]; omega), chk_pos (by unfold maxLen; omega)]
    have hst : (blocks (tabOf l) x1 x2 ((s.size + 31) / 32)).extract (0 : Int).toNat (s.size : Int).toNat = streamB (tabOf l) x1 x2 s.size := rfl
    have hD : s.data.toList.length = s.size := size_ofL' s
    have hk2 : (streamB (tabOf l) x1 x2 s.size).data.toList.length = s.size := by rw [size_ofL', streamB_size hT]
    have e3 : sbytes s = ns s.data.toList := rfl
    rw [e3]
    have h2 := iter_count (f := fun x => F.law03_MillStreams.l7 s (blocks (tabOf l) x1 x2 ((s.size + 31) / 32)) x.1 x.2) (fun i => (ns (turned (fun i b => b ^^^ ((streamB (tabOf l) x1 x2 s.size).data.toList[i]?).getD 0) s.data.toList i), (i : Int))) (n := s.data.toList.length) (r := ns (xorL s.data.toList (streamB (tabOf l) x1 x2 s.size).data.toList))
      (fun i hi => by
        dsimp only
        unfold F.law03_MillStreams.l7
        rw [hst]
        have hb := List.getElem?_eq_getElem hi
        have hg := ns_get (turned_get (fun i b => b ^^^ ((streamB (tabOf l) x1 x2 s.size).data.toList[i]?).getD 0) hb)
        have hbt : bt (streamB (tabOf l) x1 x2 s.size) (i : Int) = ((((streamB (tabOf l) x1 x2 s.size).data.toList[i]?).getD 0).toNat : Int) := by
          conv => lhs; rw [ofL_surj (streamB (tabOf l) x1 x2 s.size)]
          rw [bt_ofL, Int.toNat_natCast]
        rw [if_pos (by rw [ns_length, turned_length]; simp; omega), at_nat hg, Option.bind_some, chk_pos (by rw [streamB_size hT]; omega), Option.bind_some, hbt, ixor8, Int.toNat_natCast, ns_set, turned_set _ hb, wadd (by omega)])
      (by
        dsimp only
        unfold F.law03_MillStreams.l7
        rw [if_neg (by rw [ns_length, turned_length]; simp), turned_all, mapIdx_zip _ _ (by omega)]) (k := FUEL) (by rw [FUEL_eq]; omega)
    rw [turned_zero] at h2
    refine (congrArg (fun o => Option.bind o _) h2).trans ?_
    rw [Option.bind_some]
    unfold F.law03_MillStreams.r8
    rw [hst, bstr_ns]
    have hv : ofL (xorL s.data.toList (streamB (tabOf l) x1 x2 s.size).data.toList) = veilB (tabOf l) x1 x2 s := by
      unfold veilB
      split
      · rename_i h0
        have : s.data.toList = [] := List.length_eq_zero_iff.1 (by omega)
        rw [this]; rfl
      · rfl
    have hm : (⟨tabOf l, [], ⟨b0, b0⟩, false, false, 0⟩ : mill_Mill).table_ = tabOf l := rfl
    rw [veil_eq _ hT (by omega) (by omega) (by omega), Option.bind_some, hm]
    have hstr : F.mill_Mill_Stream x1 x2 (s.size : Int) ⟨tabOf l, [], ⟨b0, b0⟩, false, false, 0⟩ = some (streamB (tabOf l) x1 x2 s.size) := by
      by_cases h0 : s.size = 0
      · unfold F.mill_Mill_Stream F.mill_Mill_none
        rw [Option.bind_some, if_neg Bool.false_ne_true, if_pos (by simp; omega), empty_of_size (s := streamB (tabOf l) x1 x2 s.size) (by rw [streamB_size hT, h0])]; rfl
      · rw [stream_eq _ hT (by omega) (by omega) (by omega) (by omega)]
    rw [hstr, Option.bind_some, seqB_refl, if_pos rfl, hv, seqB_refl, if_pos rfl, veil_eq _ hT (by omega) (by omega) (by rw [veilB_size hT]; omega), Option.bind_some, hm, veil_twice hT, seqB_refl, if_pos rfl, awake]; rfl
end Go.Proofs.Ytgkkgmnomiokbaa
