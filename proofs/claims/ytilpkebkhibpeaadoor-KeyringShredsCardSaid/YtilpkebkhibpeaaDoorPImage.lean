/- All that lasts of a disk, in plain words. -/
import Derived.Test.YtilpkebkhibpeaaDoorPDiskW
import Derived.Test.YtilpkebkhibpeaaDoorGShreds
namespace Go.Proofs.YtilpkebkhibpeaaDoor
set_option linter.all false
open Go Go.RowKit Go.Fw
set_option maxRecDepth 100000
attribute [local irreducible] FUEL
def imageL : List disk_sector → List UInt8
  | [] => []
  | x :: l => x.s_.data.toList ++ imageL l
theorem imageL_len : ∀ (l : List disk_sector), (∀ x ∈ l, x.s_.size = 64) → (imageL l).length = 64 * l.length
  | [], _ => rfl
  | x :: l, h => by
    have := imageL_len l fun y hy => h y (by simp [hy])
    have h1 := h x (by simp)
    unfold imageL
    rw [List.length_append, size_ofL', this, h1, List.length_cons]
    omega
theorem imageL_take : ∀ (l : List disk_sector) (k : Nat) (x : disk_sector), l[k]? = some x → imageL (l.take (k + 1)) = imageL (l.take k) ++ x.s_.data.toList
  | y :: l, 0, x, h => by
    have e : y = x := Option.some.inj h
    subst e
    show y.s_.data.toList ++ imageL (l.take 0) = imageL [] ++ _
    rw [List.take_zero]
    simp [imageL]
  | y :: l, k + 1, x, h => by
    have ih := imageL_take l k x h
    show y.s_.data.toList ++ imageL (l.take (k + 1)) = (y.s_.data.toList ++ imageL (l.take k)) ++ _
    rw [ih, List.append_assoc]
theorem image_eq {d : disk_Disk} (h : DOk d) : F.disk_Disk_Image d = some (ofL (imageL d.sure_)) := by
  have hp := h.pos
  have hl := h.len
  unfold F.disk_Disk_Image F.disk_Disk_Size
  rw [Option.bind_some, if_neg (by intro e; rw [beq_iff_eq] at e; omega)]
  have e := iter_count (f := fun (x : Int × ByteArray) => F.disk_Disk_Image.l1 d x.1 x.2) (fun k => ((k : Int), ofL (imageL (d.sure_.take k)))) (n := d.sure_.length) (r := ofL (imageL d.sure_)) (fun k hk => by
    obtain ⟨x, hx⟩ := getq hk
    have h64 := h.sec x (List.mem_of_getElem? hx)
    have hlen : (imageL (d.sure_.take k)).length = 64 * k := by
      rw [imageL_len _ (fun y hy => h.sec y (List.mem_of_mem_take hy)), List.length_take]
      omega
    dsimp only
    unfold F.disk_Disk_Image.l1 F.strings_Builder_WriteString
    rw [if_pos (by simp; omega), at_nat hx, Option.bind_some, chk_pos (by unfold room; rw [ofL_size, hlen, h64]; omega), Option.bind_some, wadd (by omega)]
    dsimp only
    rw [imageL_take _ _ _ hx, ← ofL_append, ← ofL_surj])
    (by
      dsimp only
      unfold F.disk_Disk_Image.l1
      rw [if_neg (by simp), List.take_length]) (k := FUEL) (by rw [FUEL_eq]; omega)
  refine (congrArg (fun o => Option.bind o _) e).trans ?_
  rfl
theorem imageL_sec : ∀ (l : List disk_sector) (k : Nat) (x : disk_sector), (∀ y ∈ l, y.s_.size = 64) → l[k]? = some x → ((imageL l).take (64 * (k + 1))).drop (64 * k) = x.s_.data.toList
  | y :: l, 0, x, h, hx => by
    have e : y = x := Option.some.inj hx
    subst e
    have h1 := h y (by simp)
    show ((y.s_.data.toList ++ imageL l).take 64).drop 0 = _
    rw [List.drop_zero, List.take_append_of_le_length (by rw [size_ofL', h1]; decide), List.take_of_length_le (by rw [size_ofL', h1]; decide)]
  | y :: l, k + 1, x, h, hx => by
    have ih := imageL_sec l k x (fun z hz => h z (by simp [hz])) hx
    have h1 := h y (by simp)
    have h2 : y.s_.data.toList.length = 64 := by rw [size_ofL', h1]
    show ((y.s_.data.toList ++ imageL l).take (64 * (k + 1 + 1))).drop (64 * (k + 1)) = _
    rw [List.take_append, List.drop_append, List.drop_of_length_le (by rw [List.length_take]; omega), List.nil_append, List.length_take, h2]
    have e1 : 64 * (k + 1 + 1) - 64 = 64 * (k + 1) := by omega
    have e2 : 64 * (k + 1) - min (64 * (k + 1 + 1)) 64 = 64 * k := by omega
    rw [e1, e2, ih]
end Go.Proofs.YtilpkebkhibpeaaDoor
