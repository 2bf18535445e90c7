/- A ring of keys in plain words. -/
import Derived.Test.YtilpkebkhibpeaaGreatDoorPGuardK
import Derived.Test.YtilpkebkhibpeaaGreatDoorPGuardE
import Derived.Test.YtilpkebkhibpeaaGreatDoorPDiskC
import Derived.Test.YtilpkebkhibpeaaGreatDoorGRing
import Derived.Test.YtilpkebkhibpeaaGreatDoorGRingb
import Derived.Test.YtilpkebkhibpeaaGreatDoorGRingb
import Derived.Test.YtilpkebkhibpeaaGreatDoorGRing
namespace Go.Proofs.YtilpkebkhibpeaaGreatDoor
set_option linter.all false
open Go Go.RowKit Go.Fw
set_option maxRecDepth 100000
attribute [local irreducible] FUEL
theorem gdisk_eq (g : guard_Guard) (d : disk_Disk) : F.guard_Guard_Disk g d = some () := rfl
theorem rnew_eq {g : guard_Guard} {d : disk_Disk} {b s : Int} (hb : 0 ≤ b) (hs : 1 ≤ s) (hs2 : s ≤ 64) (hl : b ≤ (d.sure_.length : Int)) (hl2 : s ≤ (d.sure_.length : Int) - b) (hlen : d.sure_.length ≤ 8192) : F.keyring_New b s g d = some (some ⟨b, s, 0⟩, 0) := by
  unfold F.keyring_New
  rw [gdisk_eq, Option.bind_some, if_neg (by simp; omega), if_neg (by simp; omega), Option.bind_some]
  unfold F.keyring_New.r1
  have : decide (s > 64) = false := by simp; omega
  rw [this, if_neg (by decide), gdisk_eq, Option.bind_some]
  unfold F.disk_Disk_Size
  rw [Option.bind_some, if_neg (by simp; omega), Option.bind_some, Option.bind_some, w64 (by omega) (by omega), if_neg (by simp; omega), thru_inl]
  rfl
theorem made_eq {d : disk_Disk} (hlen : d.sure_.length = 20) {b : Int} (h1 : 1 ≤ b) (h2 : b ≤ 2147483647) : F.law13_made b d = some (some (⟨5, 8, 0⟩, ⟨b, 0⟩)) := by
  unfold F.law13_made
  rw [gnew_eq (by omega) h1 h2, Option.bind_some]
  dsimp only [optC]
  try rw [if_neg (by decide)]
  rw [rnew_eq (by decide) (by decide) (by decide) (by omega) (by omega) (by omega), Option.bind_some]
  try dsimp only [optC]
  try rw [if_neg (by decide)]
/-- a slot's place may be asked -/
theorem rwhy_eq (r : keyring_Ring) (g : guard_Guard) (d : disk_Disk) (i : Int) : F.keyring_Ring_why i r g d = some (if i < 0 ∨ r.slots_ ≤ i then 5 else 0) := by
  unfold F.keyring_Ring_why F.keyring_Ring_why.r1
  rw [Option.bind_some]
  by_cases h1 : i < 0
  · rw [if_pos (by simpa using h1), if_pos (.inl h1)]
  · rw [if_neg (by simpa using h1)]
    by_cases h2 : r.slots_ ≤ i
    · rw [if_pos (by simpa using h2), if_pos (.inr h2)]
    · rw [if_neg (by simpa using h2), if_neg (by omega)]
theorem rfree_out {r : keyring_Ring} {g : guard_Guard} {d : disk_Disk} {i : Int} (h : i < 0 ∨ r.slots_ ≤ i) : F.keyring_Ring_Free i r g d = some false := by
  unfold F.keyring_Ring_Free
  rw [rwhy_eq, if_pos h, Option.bind_some, if_neg (by decide)]
/-- a place of the ring, and what is there -/
structure At (r : keyring_Ring) (d : disk_Disk) (i : Int) (j : Int) (b : List UInt8) : Prop where
  lo : 0 ≤ i
  hi : i < r.slots_
  sum : IntKind.i64.wrap (r.base_ + i) = j
  j0 : 0 ≤ j
  why : whyB d j = 0
  cur : curB d j = ofL b
  len : b.length = 64
theorem rfree_eq {r : keyring_Ring} {g : guard_Guard} {d : disk_Disk} {i j : Int} {b : List UInt8} (hp : 1 ≤ d.sure_.length) (h : At r d i j b) : F.keyring_Ring_Free i r g d = some ((readL b).2.2 == 7) := by
  unfold F.keyring_Ring_Free
  have hn : ¬ (i < 0 ∨ r.slots_ ≤ i) := by have := h.lo; have := h.hi; omega
  rw [rwhy_eq, if_neg hn, Option.bind_some, if_pos (by decide), h.sum, gblank_eq hp h.why h.cur h.len]
  rfl
theorem read_codes (b : List UInt8) : (readL b).2.2 ≠ 8 := by
  unfold readL
  split
  · decide
  · split <;> (dsimp only; decide)
theorem rput_eq {r : keyring_Ring} {g : guard_Guard} (hg : GOk g) {d : disk_Disk} (hf : FOk d.fall_) (hd : DOk d) {i j : Int} {b : List UInt8} (h : At r d i j b) {s : List UInt8} (hs : s.length = 32) :
    F.keyring_Ring_Put i (ofL s) r g d = some (if (readL b).2.2 ≠ 7 then (25, g, d) else if due d then (8, g, dropD d.fall_ d) else if due (writeD d j (ofL (secL (stampG g) s))) then (8, upG g, dropD d.fall_ (writeD d j (ofL (secL (stampG g) s)))) else (0, upG g, flushD (writeD d j (ofL (secL (stampG g) s))))) := by
  have hn : ¬ (i < 0 ∨ r.slots_ ≤ i) := by have := h.lo; have := h.hi; omega
  unfold F.keyring_Ring_Put
  rw [rwhy_eq, if_neg hn, Option.bind_some, if_neg (by decide), ofL_size, hs, if_neg (by decide), rfree_eq hd.pos h, Option.bind_some]
  by_cases h7 : (readL b).2.2 = 7
  · rw [if_neg (by simp [h7]), if_neg (c := (readL b).2.2 ≠ 7) (fun e => e h7), h.sum, gput_eq hg hf hd j s (by omega), if_neg (by omega), if_neg (c := whyB d j ≠ 0) (fun e => e h.why)]
    by_cases hdue : due d
    · rw [if_pos hdue, if_pos hdue, Option.bind_some]
      dsimp only
      rw [if_pos (by decide)]
    · rw [if_neg hdue, if_neg hdue, Option.bind_some]
      dsimp only
      have hs64 : (ofL (secL (stampG g) s)).size = 64 := by rw [ofL_size, secL_len (by omega)]
      obtain ⟨hoff, hj0, hj1⟩ := whyB_zero h.why
      have hok := write_ok hd hj0 hj1 hs64
      generalize hE : writeD d j (ofL (secL (stampG g) s)) = E at hok
      have hEf : E.fall_ = d.fall_ := by rw [← hE]; rfl
      have hEo : E.off_ = false := by rw [← hE]; exact hoff
      rw [if_neg (by decide), gflush_eq (by rw [hEf]; exact hf) hok, hEo, if_neg (by decide), hEf]
      by_cases hd2 : due E
      · rw [if_pos hd2, if_pos hd2]
        rfl
      · rw [if_neg hd2, if_neg hd2]
        rfl
  · rw [if_pos (by simp [h7]), if_pos (c := (readL b).2.2 ≠ 7) h7, h.sum, gget_eq hd.pos h.why h.cur h.len, Option.bind_some]
    dsimp only
    rw [if_neg (by have := read_codes b; simpa using this)]
theorem rshred_eq {r : keyring_Ring} {g : guard_Guard} {d : disk_Disk} (hf : FOk d.fall_) (hd : DOk d) {i j : Int} {b : List UInt8} (h : At r d i j b) :
    F.keyring_Ring_Shred i r g d = some (if (readL b).2.2 = 7 then (0, r, d) else if due d then (8, r, dropD d.fall_ d) else if due (writeD d j (ofL noL)) then (8, r, dropD d.fall_ (writeD d j (ofL noL))) else (0, ⟨r.base_, r.slots_, IntKind.i64.wrap (r.shred_ + 1)⟩, flushD (writeD d j (ofL noL)))) := by
  have hn : ¬ (i < 0 ∨ r.slots_ ≤ i) := by have := h.lo; have := h.hi; omega
  unfold F.keyring_Ring_Shred
  rw [rwhy_eq, if_neg hn, Option.bind_some, if_neg (by decide), h.sum, gget_eq hd.pos h.why h.cur h.len, Option.bind_some]
  dsimp only
  by_cases h7 : (readL b).2.2 = 7
  · rw [if_pos (by simpa using h7), if_pos h7]
  · rw [if_neg (by simpa using h7), if_neg h7, if_neg (by have := read_codes b; simpa using this), gerase_eq hf hd, if_neg (c := whyB d j ≠ 0) (fun e => e h.why)]
    by_cases hdue : due d
    · rw [if_pos hdue, if_pos hdue, Option.bind_some]
      dsimp only
      rw [if_pos (by decide)]
    · rw [if_neg hdue, if_neg hdue, Option.bind_some]
      dsimp only
      have hs64 : (ofL noL).size = 64 := by rw [ofL_size]; rfl
      obtain ⟨hoff, hj0, hj1⟩ := whyB_zero h.why
      have hok := write_ok hd hj0 hj1 hs64
      generalize hE : writeD d j (ofL noL) = E at hok
      have hEf : E.fall_ = d.fall_ := by rw [← hE]; rfl
      have hEo : E.off_ = false := by rw [← hE]; exact hoff
      rw [if_neg (by decide), gflush_eq (by rw [hEf]; exact hf) hok, hEo, if_neg (by decide), hEf]
      by_cases hd2 : due E
      · rw [if_pos hd2, if_pos hd2, Option.bind_some]
        dsimp only
        rw [if_pos (by decide)]
      · rw [if_neg hd2, if_neg hd2, Option.bind_some]
        dsimp only
        rw [if_neg (by decide)]
/-- a key of one byte -/
def keyL (c : Int) : List UInt8 := List.replicate 32 (UInt8.ofNat c.toNat)
theorem keyL_len (c : Int) : (keyL c).length = 32 := by unfold keyL; rw [List.length_replicate]
theorem key_eq (c : Int) : F.law13_key c = some (ofL (keyL c)) := by
  unfold F.law13_key
  rw [chk_pos (by decide)]
  have e := iter_count (f := fun (x : List Int × Int) => F.law13_key.l1 c x.1 x.2) (fun i => (List.replicate i c ++ List.replicate (32 - i) 0, (i : Int))) (n := 32) (r := List.replicate 32 c) (fun i hi => by
    dsimp only
    unfold F.law13_key.l1
    rw [if_pos (by simp; omega), at_nat (rep_get c 0 hi), Option.bind_some, wadd (by omega), Int.toNat_natCast, rep_set c 0 hi])
    (by
      dsimp only
      unfold F.law13_key.l1
      rw [if_neg (by simp), Nat.sub_self, List.replicate_zero, List.append_nil]) (k := FUEL) (by rw [FUEL_eq]; omega)
  refine (congrArg (fun o => Option.bind o _) e).trans ?_
  rw [Option.bind_some]
  unfold F.law13_key.r2
  rw [bstr_ofL, List.map_replicate]
  rfl
end Go.Proofs.YtilpkebkhibpeaaGreatDoor
