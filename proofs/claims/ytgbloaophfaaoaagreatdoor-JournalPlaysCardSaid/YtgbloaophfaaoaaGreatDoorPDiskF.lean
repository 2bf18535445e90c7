/- What a disk flushes, in plain words. -/
import Derived.Test.YtgbloaophfaaoaaGreatDoorPDiskW
import Derived.Test.YtgbloaophfaaoaaGreatDoorGPlaysd
namespace Go.Proofs.YtgbloaophfaaoaaGreatDoor
set_option linter.all false
open Go Go.RowKit Go.Fw
set_option maxRecDepth 100000
attribute [local irreducible] FUEL
/-! ### flushing -/
def setAll' : List (Int × disk_sector) → List disk_sector → List disk_sector
  | [], s => s
  | p :: l, s => setAll' l (s.set p.1.toNat p.2)
theorem setAll'_len : ∀ (l : List (Int × disk_sector)) (s : List disk_sector), (setAll' l s).length = s.length
  | [], _ => rfl
  | p :: l, s => by unfold setAll'; rw [setAll'_len l, List.length_set]
theorem flush_loop : ∀ (l : List (Int × disk_sector)) (s : List disk_sector), (∀ p ∈ l, 0 ≤ p.1 ∧ p.1 < (s.length : Int)) → mloop (fun q x => F.disk_Disk_Flush.l1 q x.1 x.2) l (s, l) = some (setAll' l s, [])
  | [], s, _ => rfl
  | p :: l, s, h => by
    have hp := h p (by simp)
    obtain ⟨y, hy⟩ := getq (l := s) (i := p.1.toNat) (by omega)
    have e : F.disk_Disk_Flush.l1 p s (p :: l) = some (s.set p.1.toNat p.2, l) := by
      unfold F.disk_Disk_Flush.l1
      rw [at_pos hp.1 hy, Option.bind_some]
      have : mdel (p :: l) p.1 = l := if_pos rfl
      rw [this]
    show (F.disk_Disk_Flush.l1 p s (p :: l)).bind (mloop (fun q x => F.disk_Disk_Flush.l1 q x.1 x.2) l) = _
    rw [e, Option.bind_some, flush_loop l _ (fun q hq => by rw [List.length_set]; exact h q (by simp [hq]))]
    rfl
theorem setAll'_get : ∀ (l : List (Int × disk_sector)) (s : List disk_sector) (j : Nat), (l.map Prod.fst).Nodup → (∀ p ∈ l, 0 ≤ p.1) → (setAll' l s)[j]? = match mget l (j : Int) with | some x => (s[j]?).map fun _ => x | none => s[j]?
  | [], _, _, _, _ => rfl
  | p :: l, s, j, hn, h0 => by
    rw [List.map_cons, List.nodup_cons] at hn
    have hp := h0 p (by simp)
    unfold setAll'
    rw [setAll'_get l _ j hn.2 (fun q hq => h0 q (by simp [hq])), mget_cons]
    by_cases e : (j : Int) = p.1
    · have hno : mget l (j : Int) = none := by
        cases hm : mget l (j : Int) with
        | none => rfl
        | some x => exact absurd (by rw [← e]; exact key_of_mget hm) hn.1
      rw [if_pos e, hno]
      dsimp only
      rw [← e, Int.toNat_natCast, List.getElem?_set]
      rw [if_pos rfl]
      by_cases hj : j < s.length
      · rw [if_pos hj, List.getElem?_eq_getElem hj]; rfl
      · rw [if_neg hj, List.getElem?_eq_none (by omega)]; rfl
    · rw [if_neg e, List.getElem?_set_ne (by omega)]
def flushD (d : disk_Disk) : disk_Disk := ⟨setAll' d.wait_ d.sure_, [], d.off_, d.armed_, (actD d).left_, d.fall_, (actD d).acts_, d.falls_⟩
theorem flush_eq {d : disk_Disk} (hf : FOk d.fall_) (h : DOk d) : F.disk_Disk_Flush d = some (if d.off_ = true then (8, d) else if due d then (8, dropD d.fall_ d) else (0, flushD d)) := by
  have hp := h.pos
  unfold F.disk_Disk_Flush
  rw [why_eq hp, Option.bind_some]
  cases ho : d.off_ with
  | true =>
    have : whyB d 0 = 8 := by unfold whyB; rw [ho]; rfl
    rw [this, if_pos (by decide), if_pos rfl]
  | false =>
    have : whyB d 0 = 0 := whyB_in ho (Int.le_refl _) (by omega)
    simp only [Bool.false_eq_true, if_false]
    rw [this, if_neg (by decide)]
    by_cases hd : due d
    · rw [if_pos hd, act_due hf h hd]; rfl
    · rw [if_neg hd, act_not hf h hd, Option.bind_some]
      dsimp only
      have hfew := h.few
      have ew : (actD d).wait_ = d.wait_ := rfl
      have es : (actD d).sure_ = d.sure_ := rfl
      rw [if_neg (by decide), ew, es, chk_pos (by omega), flush_loop _ _ (fun p hp => ⟨(h.inr p hp).1, (h.inr p hp).2.1⟩), Option.bind_some]
      unfold F.disk_Disk_Flush.x2
      rw [Option.bind_some]
      rfl
theorem flush_ok {d : disk_Disk} (h : DOk d) : DOk (flushD d) where
  sec x hx := by
    obtain ⟨j, hj⟩ := List.getElem?_of_mem hx
    have hg := setAll'_get d.wait_ d.sure_ j h.keys (fun p hp => (h.inr p hp).1)
    have hj : (setAll' d.wait_ d.sure_)[j]? = some x := hj
    rw [hg] at hj
    cases hm : mget d.wait_ (j : Int) with
    | none => rw [hm] at hj; exact h.sec x (List.mem_of_getElem? hj)
    | some y =>
      rw [hm] at hj
      cases ho : d.sure_[j]? with
      | none => rw [ho] at hj; cases hj
      | some o =>
        rw [ho] at hj
        have := Option.some.inj hj
        rw [← this]
        exact (h.inr _ (mgetD_mem hm)).2.2
  keys := List.nodup_nil
  inr p hp := by cases hp
  pos := by show 1 ≤ (setAll' d.wait_ d.sure_).length; rw [setAll'_len]; exact h.pos
  len := by show (setAll' d.wait_ d.sure_).length ≤ _; rw [setAll'_len]; exact h.len
end Go.Proofs.YtgbloaophfaaoaaGreatDoor
