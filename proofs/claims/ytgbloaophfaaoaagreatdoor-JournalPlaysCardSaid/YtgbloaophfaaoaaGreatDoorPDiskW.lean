/- What is read and written of a disk, in plain words. -/
import Derived.Test.YtgbloaophfaaoaaGreatDoorPDisk
import Derived.Test.YtgbloaophfaaoaaGreatDoorGPlaysc
import Derived.Test.YtgbloaophfaaoaaGreatDoorGPlays
namespace Go.Proofs.YtgbloaophfaaoaaGreatDoor
set_option linter.all false
open Go Go.RowKit Go.Fw
set_option maxRecDepth 100000
attribute [local irreducible] FUEL
/-- what a sector is told as -/
def curB (d : disk_Disk) (i : Int) : ByteArray := match mget d.wait_ i with | some x => x.s_ | none => ((d.sure_[i.toNat]?).getD zS).s_
theorem whyB_zero {d : disk_Disk} {i : Int} (h : whyB d i = 0) : d.off_ = false ∧ 0 ≤ i ∧ i < (d.sure_.length : Int) := by
  unfold whyB at h
  cases ho : d.off_ with
  | true => rw [ho] at h; cases h
  | false =>
    rw [ho] at h
    simp only [Bool.false_eq_true, if_false] at h
    by_cases hc : i < 0 ∨ (d.sure_.length : Int) ≤ i
    · rw [if_pos hc] at h; cases h
    · exact ⟨rfl, by omega, by omega⟩
theorem whyB_in {d : disk_Disk} {i : Int} (ho : d.off_ = false) (h0 : 0 ≤ i) (h1 : i < (d.sure_.length : Int)) : whyB d i = 0 := by
  unfold whyB
  rw [ho, if_neg (by decide), if_neg (by omega)]
theorem read_eq {d : disk_Disk} (h : 1 ≤ d.sure_.length) (i : Int) : F.disk_Disk_Read i d = some (if whyB d i = 0 then (curB d i, 0) else (e0, whyB d i)) := by
  unfold F.disk_Disk_Read
  rw [why_eq h, Option.bind_some]
  by_cases hw : whyB d i = 0
  · obtain ⟨ho, h0, h1⟩ := whyB_zero hw
    rw [if_neg (by simpa using hw), if_pos hw]
    unfold curB
    cases hm : mget d.wait_ i with
    | some x =>
      have e1 : mhas d.wait_ i = true := by unfold mhas; rw [hm]; rfl
      have e2 : mgetD d.wait_ i (⟨(ByteArray.mk #[]), 0⟩ : disk_sector) = x := by unfold mgetD; rw [hm]; rfl
      rw [if_pos e1, e2]
    | none =>
      have e1 : mhas d.wait_ i = false := by unfold mhas; rw [hm]; rfl
      obtain ⟨y, hy⟩ := getq (l := d.sure_) (i := i.toNat) (by omega)
      rw [if_neg (by rw [e1]; decide), at_pos h0 hy, hy]
      rfl
  · rw [if_pos (by simpa using hw), if_neg hw]
    rfl
theorem mset_keys {l : List (Int × disk_sector)} {i : Int} {x : disk_sector} (hn : (l.map Prod.fst).Nodup) : ((mset l i x).map Prod.fst).Nodup ∧ ∀ p ∈ mset l i x, p = (i, x) ∨ p ∈ l := by
  induction l with
  | nil => exact ⟨by simp [mset], fun p hp => by simp [mset] at hp; exact .inl hp⟩
  | cons q l ih =>
    rw [List.map_cons, List.nodup_cons] at hn
    obtain ⟨i1, i2⟩ := ih hn.2
    rw [mset_cons]
    by_cases e : i = q.1
    · rw [if_pos e]
      refine ⟨by rw [List.map_cons, List.nodup_cons]; exact ⟨by rw [e]; exact hn.1, hn.2⟩, fun p hp => ?_⟩
      rcases List.mem_cons.1 hp with rfl | hp
      · exact .inl rfl
      · exact .inr (by simp [hp])
    · rw [if_neg e]
      refine ⟨by
        rw [List.map_cons, List.nodup_cons]
        refine ⟨fun hm => ?_, i1⟩
        obtain ⟨p, hp, he⟩ := List.mem_map.1 hm
        rcases i2 p hp with rfl | hp
        · exact e he
        · exact hn.1 (by rw [← he]; exact List.mem_map_of_mem hp), fun p hp => ?_⟩
      rcases List.mem_cons.1 hp with rfl | hp
      · exact .inr (by simp)
      · rcases i2 p hp with h | h
        · exact .inl h
        · exact .inr (by simp [h])
/-- the act is counted -/
def actD (d : disk_Disk) : disk_Disk := ⟨d.sure_, d.wait_, d.off_, d.armed_, IntKind.i64.wrap (d.left_ - 1), d.fall_, IntKind.i64.wrap (d.acts_ + 1), d.falls_⟩
def dropD (f : disk_Fall) (d : disk_Disk) : disk_Disk := ⟨fallG f d.wait_ (sortI (keysD d)) 0 d.sure_, [], true, false, d.left_, d.fall_, d.acts_, IntKind.i64.wrap (d.falls_ + 1)⟩
def due (d : disk_Disk) : Prop := d.armed_ = true ∧ d.left_ = 0
instance (d : disk_Disk) : Decidable (due d) := inferInstanceAs (Decidable (_ ∧ _))
def writeD (d : disk_Disk) (i : Int) (s : ByteArray) : disk_Disk := ⟨d.sure_, mset d.wait_ i ⟨s, (actD d).acts_⟩, d.off_, d.armed_, (actD d).left_, d.fall_, (actD d).acts_, d.falls_⟩
theorem act_due {d : disk_Disk} (hf : FOk d.fall_) (h : DOk d) (hd : due d) : F.disk_Disk_act d = some (8, dropD d.fall_ d) := by
  rw [act_eq hf h, if_pos (show d.armed_ = true ∧ d.left_ = 0 from hd)]; rfl
theorem act_not {d : disk_Disk} (hf : FOk d.fall_) (h : DOk d) (hd : ¬ due d) : F.disk_Disk_act d = some (0, actD d) := by
  rw [act_eq hf h, if_neg (show ¬ (d.armed_ = true ∧ d.left_ = 0) from hd)]; rfl
theorem write_eq {d : disk_Disk} (hf : FOk d.fall_) (h : DOk d) (i : Int) (s : ByteArray) : F.disk_Disk_Write i s d = some (if whyB d i ≠ 0 then (whyB d i, d) else if s.size ≠ 64 then (1, d) else if due d then (8, dropD d.fall_ d) else (0, writeD d i s)) := by
  unfold F.disk_Disk_Write
  rw [why_eq h.pos, Option.bind_some]
  by_cases hw : whyB d i = 0
  · rw [if_neg (c := whyB d i ≠ 0) (fun h => h hw), hw, if_neg (by decide)]
    by_cases hs : s.size = 64
    · rw [if_neg (c := s.size ≠ 64) (fun h => h hs), if_neg (by simp; omega)]
      by_cases hd : due d
      · rw [if_pos hd, act_due hf h hd]; rfl
      · rw [if_neg hd, act_not hf h hd]; rfl
    · rw [if_pos (c := s.size ≠ 64) hs, if_pos (by simp; omega)]
  · rw [if_pos (c := whyB d i ≠ 0) hw, if_pos (by simpa using hw)]
theorem write_ok {d : disk_Disk} (h : DOk d) {i : Int} {s : ByteArray} (h0 : 0 ≤ i) (h1 : i < (d.sure_.length : Int)) (hs : s.size = 64) : DOk (writeD d i s) where
  sec := h.sec
  keys := (mset_keys h.keys).1
  inr p hp := by
    rcases (mset_keys h.keys).2 p hp with rfl | hp
    · exact ⟨h0, h1, hs⟩
    · exact h.inr p hp
  pos := h.pos
  len := h.len
theorem fallG_len {f : disk_Fall} {w : List (Int × disk_sector)} : ∀ (ks : List Int) (k : Nat) (s : List disk_sector), (fallG f w ks k s).length = s.length
  | [], _, _ => rfl
  | i :: ks, k, s => by
    unfold fallG
    rw [fallG_len ks]
    split
    · rw [List.length_set]
    · rfl
theorem mgetD_mem {w : List (Int × disk_sector)} {i : Int} {x : disk_sector} (h : mget w i = some x) : (i, x) ∈ w := by
  induction w with
  | nil => cases h
  | cons p w ih =>
    rw [mget_cons] at h
    by_cases e : i = p.1
    · rw [if_pos e] at h
      have := Option.some.inj h
      rw [e, ← this]; simp
    · rw [if_neg e] at h
      have := ih h
      simp [this]
theorem mget_of_key {w : List (Int × disk_sector)} {i : Int} (h : i ∈ w.map Prod.fst) : ∃ x, mget w i = some x := by
  induction w with
  | nil => cases h
  | cons p w ih =>
    rw [mget_cons]
    by_cases e : i = p.1
    · exact ⟨p.2, if_pos e⟩
    · rw [if_neg e]
      refine ih ?_
      rw [List.map_cons] at h
      rcases List.mem_cons.1 h with h | h
      · exact absurd h e
      · exact h
theorem key_of_mget {w : List (Int × disk_sector)} {i : Int} {x : disk_sector} (h : mget w i = some x) : i ∈ w.map Prod.fst := List.mem_map.2 ⟨(i, x), mgetD_mem h, rfl⟩
/-- what comes of a sector when the power goes -/
theorem drop_get {f : disk_Fall} {d : disk_Disk} (h : DOk d) (j : Nat) : 
    (mget d.wait_ (j : Int) = none → (dropD f d).sure_[j]? = d.sure_[j]?) ∧
    (∀ x, mget d.wait_ (j : Int) = some x → ∃ k, (sortI (keysD d))[k]? = some (j : Int) ∧ (dropD f d).sure_[j]? = (d.sure_[j]?).map fun old => fallV f k old x) := by
  have hk0 : ∀ i ∈ sortI (keysD d), 0 ≤ i := fun i hi => by
    have hi := (sortI_p _).mem_iff.1 hi
    obtain ⟨p, hp, rfl⟩ := List.mem_map.1 hi
    exact (h.inr p hp).1
  obtain ⟨g1, g2⟩ := fallG_get (f := f) (w := d.wait_) (sortI (keysD d)) 0 d.sure_ j (sortI_lt h.keys) hk0
  refine ⟨fun hn => g1 (fun hm => ?_), fun x hx => ?_⟩
  · obtain ⟨y, hy⟩ := mget_of_key ((sortI_p _).mem_iff.1 hm)
    rw [hn] at hy; cases hy
  · have hm := (sortI_p (keysD d)).mem_iff.2 (key_of_mget hx)
    obtain ⟨k, hk⟩ := List.getElem?_of_mem hm
    refine ⟨k, hk, ?_⟩
    have := g2 k hk
    rw [Nat.zero_add] at this
    have e : mgetD d.wait_ (j : Int) zS = x := by unfold mgetD; rw [hx]; rfl
    rw [e] at this
    exact this
theorem drop_ok {f : disk_Fall} {d : disk_Disk} (h : DOk d) : DOk (dropD f d) where
  sec x hx := by
    obtain ⟨j, hj⟩ := List.getElem?_of_mem hx
    have hjl : j < d.sure_.length := by
      have := lt_of_get hj
      have e : (dropD f d).sure_.length = d.sure_.length := fallG_len _ _ _
      omega
    obtain ⟨old, ho⟩ := getq hjl
    have h64 := h.sec old (List.mem_of_getElem? ho)
    obtain ⟨g1, g2⟩ := drop_get (f := f) h j
    cases hm : mget d.wait_ (j : Int) with
    | none =>
      rw [g1 hm, ho] at hj
      cases hj
      exact h64
    | some y =>
      obtain ⟨k, _, e⟩ := g2 y hm
      rw [e, ho] at hj
      have := Option.some.inj hj
      rw [← this]
      exact fallV_size h64 (h.inr _ (mgetD_mem hm)).2.2
  keys := List.nodup_nil
  inr p hp := by cases hp
  pos := by
    have e : (dropD f d).sure_.length = d.sure_.length := fallG_len _ _ _
    rw [e]; exact h.pos
  len := by
    have e : (dropD f d).sure_.length = d.sure_.length := fallG_len _ _ _
    rw [e]; exact h.len

end Go.Proofs.YtgbloaophfaaoaaGreatDoor
