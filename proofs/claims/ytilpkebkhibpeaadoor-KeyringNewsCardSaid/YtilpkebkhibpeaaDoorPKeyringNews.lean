/- Which rings there are: the plain law. -/
import Derived.Test.YtilpkebkhibpeaaDoorGNews
import Derived.Test.YtilpkebkhibpeaaDoorPRing
import Derived.Test.YtilpkebkhibpeaaDoorPAwake13
namespace Go.Proofs.YtilpkebkhibpeaaDoor
set_option linter.all false
open Go Go.RowKit Go.Fw
set_option maxRecDepth 100000
attribute [local irreducible] FUEL
theorem nil_new (b s : Int) : F.keyring_New b s = some 1 := rfl
theorem argB (b s : Int) : (if decide (b < 0) = true then some true else if decide (s < 1) = true then some true else some (decide (s > 64))) = some (decide (b < 0 ∨ s < 1 ∨ s > 64)) := by
  by_cases h1 : b < 0
  · rw [if_pos (by simpa using h1)]; simp [h1]
  · rw [if_neg (by simpa using h1)]
    by_cases h2 : s < 1
    · rw [if_pos (by simpa using h2)]; simp [h2]
    · rw [if_neg (by simpa using h2)]; simp [h1, h2]
theorem rngB {b s n : Int} (h0 : 0 ≤ b) (h1 : 0 ≤ n) (h2 : n ≤ 100) (h3 : b ≤ 9223372036854775807) : (if decide (b > n) = true then some true else some (decide (s > IntKind.i64.wrap (n - b)))) = some (decide (b > n ∨ s > n - b)) := by
  by_cases h : b > n
  · rw [if_pos (by simpa using h)]; simp [h]
  · rw [if_neg (by simpa using h), w64 (by omega) (by omega)]; simp [h]
theorem rnew_arg {g : guard_Guard} {d : disk_Disk} {b s : Int} (h : b < 0 ∨ s < 1 ∨ s > 64) : F.keyring_New_1 b s g d = some (none, 1) := by
  unfold F.keyring_New_1
  rw [gdisk_eq, Option.bind_some, argB, Option.bind_some, decide_eq_true h]
  unfold F.keyring_New_1.r1
  rw [if_pos rfl, thru_inr]
theorem rnew_rng {g : guard_Guard} {d : disk_Disk} {b s : Int} (hlen : d.sure_.length ≤ 8192) (h0 : 0 ≤ b) (hb : b ≤ 9223372036854775807) (h : ¬ (b < 0 ∨ s < 1 ∨ s > 64)) (h2 : b > (d.sure_.length : Int) ∨ s > (d.sure_.length : Int) - b) : F.keyring_New_1 b s g d = some (none, 5) := by
  unfold F.keyring_New_1
  rw [gdisk_eq, Option.bind_some, argB, Option.bind_some, decide_eq_false h]
  unfold F.keyring_New_1.r1
  rw [if_neg (by decide), gdisk_eq, Option.bind_some]
  unfold F.disk_Disk_Size
  rw [Option.bind_some]
  by_cases h3 : b > (d.sure_.length : Int)
  · rw [if_pos (by simpa using h3), thru_inr]
  · rw [if_neg (by simpa using h3), Option.bind_some, Option.bind_some, w64 (by omega) (by omega), if_pos (by simp; omega), thru_inr]
theorem pure_KeyringNews (x0 x1 x2 : Int) {z0 z1 z2 : Prop} (_ : (Lit.int .i64 x0).wf = true) (_ : z0) (w1 : (Lit.int .i64 x1).wf = true) (_ : z1) (w2 : (Lit.int .i64 x2).wf = true) (_ : z2) : F.law13_KeyringNews x0 x1 x2 = some true := by
  have hx1 := wf_i64 w1
  have hx2 := wf_i64 w2
  unfold F.law13_KeyringNews
  by_cases h1 : x0 < 1
  · rw [if_pos (by simpa using h1), awake]; rfl
  rw [if_neg (by simpa using h1)]
  by_cases h2 : x0 > 100
  · rw [if_pos (by simpa using h2), awake]; rfl
  rw [if_neg (by simpa using h2), thru_inl]
  unfold F.law13_KeyringNews.r1
  obtain ⟨n, rfl⟩ : ∃ n : Nat, x0 = (n : Int) := ⟨x0.toNat, by omega⟩
  have hok := new_ok (n := n) (by omega) (by omega)
  have hlen : (newD n).sure_.length = n := by unfold newD; rw [List.length_replicate]
  rw [new_eq (n := n) (by omega) (by omega), Option.bind_some]
  dsimp only [optC]
  rw [gnew_eq hok.pos (by decide) (by decide), Option.bind_some]
  dsimp only [optC]
  rw [if_neg (by decide), if_neg (by decide), thru_inl]
  unfold F.law13_KeyringNews.r17
  by_cases ha : x1 < 0 ∨ x2 < 1 ∨ x2 > 64
  · rw [rnew_arg ha, Option.bind_some]
    dsimp only [optC]
    rw [nil_new, Option.bind_some, if_neg (by decide), argB, Option.bind_some, decide_eq_true ha]
    unfold F.law13_KeyringNews.r18
    rw [if_pos rfl, if_pos (by decide), awake]
    rfl
  by_cases hr : x1 > (n : Int) ∨ x2 > (n : Int) - x1
  · rw [rnew_rng (by omega) (by omega) hx1.2 ha (by rw [hlen]; exact hr), Option.bind_some]
    dsimp only [optC]
    rw [nil_new, Option.bind_some, if_neg (by decide), argB, Option.bind_some, decide_eq_false ha]
    unfold F.law13_KeyringNews.r18
    rw [if_neg (by decide), thru_inl]
    unfold F.law13_KeyringNews.r19
    rw [rngB (by omega) (by omega) (by omega) hx1.2, Option.bind_some, decide_eq_true hr]
    unfold F.law13_KeyringNews.r20
    rw [if_pos rfl, if_pos (by decide), awake]
    rfl
  rw [rnew_eq (by omega) (by omega) (by omega) (by rw [hlen]; omega) (by rw [hlen]; omega) (by omega), Option.bind_some]
  dsimp only [optC]
  rw [nil_new, Option.bind_some, if_neg (by decide), argB, Option.bind_some, decide_eq_false ha]
  unfold F.law13_KeyringNews.r22
  rw [if_neg (by decide), thru_inl]
  unfold F.law13_KeyringNews.r23
  rw [rngB (by omega) (by omega) (by omega) hx1.2, Option.bind_some, decide_eq_false hr]
  unfold F.law13_KeyringNews.r24
  rw [if_neg (by decide), thru_inl]
  unfold F.law13_KeyringNews.r25 F.keyring_Ring_Slots
  dsimp only
  have hat : At ⟨x1, x2, 0⟩ (newD n) (x2 - 1) (x1 + (x2 - 1)) noL := {
    lo := by omega
    hi := by show x2 - 1 < x2; omega
    sum := by show IntKind.i64.wrap (x1 + (x2 - 1)) = _; rw [w64 (by omega) (by omega)]
    j0 := by omega
    why := whyB_in rfl (by omega) (by rw [hlen]; omega)
    cur := new_cur (by omega) (by omega)
    len := rfl }
  rw [if_pos (by decide), Option.bind_some, if_pos (by simp), w64 (n := x2 - 1) (by omega) (by omega), rfree_eq hok.pos hat, no_read, Option.bind_some, if_pos (by decide), rfree_out (.inr (by show x2 ≤ x2; omega)), Option.bind_some, if_pos (by decide), rfree_out (.inl (by decide)), Option.bind_some, if_pos (by decide), waiting_eq hok, Option.bind_some]
  have : sortI (keysD (newD n)) = [] := List.Perm.eq_nil (sortI_p [])
  rw [this, if_pos (by decide), awake]
  rfl
end Go.Proofs.YtilpkebkhibpeaaDoor
