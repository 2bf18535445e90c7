/- Any text's tag by any key, with any table: the plain law. -/
import Derived.Test.YtgkkgmnomiokbaaGTags
import Derived.Test.YtgkkgmnomiokbaaPLaw03
import Derived.Test.YtgkkgmnomiokbaaPAwake03
namespace Go.Proofs.Ytgkkgmnomiokbaa
set_option linter.all false
open Go Go.RowKit Go.Fw
set_option maxRecDepth 100000
attribute [local irreducible] FUEL
theorem pure_MillTags (x0 : List mill_Entry) (x1 x2 : ByteArray) {k0 : Nat} {w0 w1 w2 : Prop} (_ : w0) (z0 : ∀ n ∈ (x0.length * k0 :: x0.flatMap fun y => (([] : List Nat) ++ [y.Key.size] ++ [y.Text.size] ++ [y.Out.size])), n ≤ 140737488351232)
    (_ : w1) (z1 : ∀ n ∈ [x1.size], n ≤ 140737488351232) (_ : w2) (z2 : ∀ n ∈ [x2.size], n ≤ 140737488351232) : F.law03_MillTags x0 x1 x2 = some true := by
  have z1 := z1 _ (List.mem_singleton.2 rfl)
  have z2 := z2 _ (List.mem_singleton.2 rfl)
  obtain ⟨hsz, hlen⟩ := sized_of z0
  unfold F.law03_MillTags
  rw [few_eq, Option.bind_some]
  generalize x0.take 10 = l at hsz hlen
  rw [with_eq hsz hlen, Option.bind_some]
  cases h32 : all32 l with
  | false =>
    simp only [Bool.false_eq_true, if_false, optC_none]
    rw [if_pos (by decide), Option.bind_some]
    unfold F.law03_MillTags.r1
    rw [right_eq hlen, h32, Option.bind_some, if_pos (by decide), awake]; rfl
  | true =>
    simp only [if_true, optC_some]
    rw [if_neg (by decide), Option.bind_some]
    unfold F.law03_MillTags.r2
    rw [if_neg Bool.false_ne_true, thru_inl]
    unfold F.law03_MillTags.r3
    rw [twins_eq, Option.bind_some, tag_eq _ (by omega) (by omega), Option.bind_some, ltag_eq hlen hsz (by omega) (by omega), Option.bind_some, seqB_refl, if_pos rfl]
    unfold F.mill_Mill_Sums F.mill_Mill_none
    rw [Option.bind_some, if_neg Bool.false_ne_true, Option.bind_some]
    dsimp only
    rw [if_pos (by decide), if_pos (by decide), awake]; rfl
end Go.Proofs.Ytgkkgmnomiokbaa
