/- Any bytes are shown as signs: the plain law. -/
import Derived.Test.YtadhamgijkbgeaaGHexes
import Derived.Test.YtadhamgijkbgeaaPAwake
import Derived.Test.YtadhamgijkbgeaaPHex
namespace Go.Proofs.Ytadhamgijkbgeaa
set_option linter.all false
open Go Go.RowKit Go.Fw
set_option maxRecDepth 100000
attribute [local irreducible] FUEL
theorem tdiv_nat (n : Nat) : ((n : Int)).tdiv 16 = ((n / 16 : Nat) : Int) := rfl
theorem tmod_nat (n : Nat) : ((n : Int)).tmod 16 = ((n % 16 : Nat) : Int) := rfl
theorem sg_cut : ∀ n : Fin 16, (SG.take (n.val + 1)).drop n.val = [sg n.val] := by decide +kernel
theorem sg_ext {n : Nat} (h : n < 16) {a b : Int} (ha : a = n) (hb : b = n + 1) : (ofL SG).extract a.toNat b.toNat = ofL [sg n] := by
  subst ha; subst hb
  rw [ofL_extract, show ((n : Int) + 1).toNat = n + 1 by omega, show ((n : Int)).toNat = n by omega]
  rw [sg_cut ⟨n, h⟩]

theorem want_step {l : List UInt8} {i : Nat} (hl : l.length ≤ 1000000000) (hi : i < l.length) :
    F.law02_ShaHexes.l2 (ofL l) (ofL (hexes (l.take i))) (i : Int) = some (.inl (ofL (hexes (l.take (i + 1))), ((i + 1 : Nat) : Int))) := by
  have hb := List.getElem?_eq_getElem hi
  generalize l[i] = b at hb
  have hlt : b.toNat < 256 := b.toNat_lt
  have hbt : bt (ofL l) (i : Int) = (b.toNat : Int) := by rw [bt_ofL]; simp [hb]
  unfold F.law02_ShaHexes.l2
  have hlen := hexes_length (l.take i)
  rw [List.length_take, Nat.min_eq_left (by omega)] at hlen
  have e1 : IntKind.i64.wrap (IntKind.i64.wrap ((b.toNat / 16 : Nat) : Int) + 1) = ((b.toNat / 16 : Nat) : Int) + 1 := by rw [w64 (n := ((b.toNat / 16 : Nat) : Int)) (by omega) (by omega), w64 (by omega) (by omega)]
  have e2 : IntKind.i64.wrap ((b.toNat / 16 : Nat) : Int) = ((b.toNat / 16 : Nat) : Int) := w64 (by omega) (by omega)
  have e3 : IntKind.i64.wrap (((b.toNat % 16 : Nat) : Int) + 1) = ((b.toNat % 16 : Nat) : Int) + 1 := w64 (by omega) (by omega)
  rw [signs_eq, hbt, w64 (n := (b.toNat : Int)) (by omega) (by omega), tdiv_nat, tmod_nat, e1, e2, e3,
    if_pos (by simp [ofL_size]; omega), chk_pos (by rw [ofL_size]; omega), chk_pos (by rw [ofL_size]; omega),
    chk_pos (by rw [ofL_size]; simp only [SG, List.length_cons, List.length_nil]; omega), sg_ext (n := b.toNat / 16) (by omega) rfl rfl, sg_ext (n := b.toNat % 16) (by omega) rfl rfl, ofL_append, ofL_append,
    chk_pos (by rw [ofL_size, ofL_size, hlen]; simp; omega), chk_pos (by rw [ofL_size]; simp only [SG, List.length_cons, List.length_nil]; omega),
    chk_pos (by rw [ofL_size, ofL_size, List.length_append, hlen]; simp; omega), w64 (by omega) (by omega), hexes_next hb]
  simp [hex1]

theorem shaHexes_short {l : List UInt8} (hl : l.length ≤ 1000000000) : F.law02_ShaHexes.r1 (ofL l) = some true := by
  unfold F.law02_ShaHexes.r1
  have h := iter_count (f := fun x => F.law02_ShaHexes.l2 (ofL l) x.1 x.2) (fun i => (ofL (hexes (l.take i)), (i : Int))) (n := l.length) (r := ofL (hexes l))
    (fun i hi => by dsimp only; exact want_step hl hi) (by
      show F.law02_ShaHexes.l2 (ofL l) _ (l.length : Int) = _
      unfold F.law02_ShaHexes.l2
      rw [ofL_size, if_neg (by simp), List.take_length])
    (k := FUEL) (by rw [FUEL_eq]; omega)
  have h0 : iter (fun x => F.law02_ShaHexes.l2 (ofL l) x.1 x.2) FUEL ((ByteArray.mk #[]), 0) = some (ofL (hexes l)) := h
  rw [h0, Option.bind_some]
  unfold F.law02_ShaHexes.r3
  rw [hex_sum hl, Option.bind_some, seqB_refl, if_pos rfl, awake, Option.bind_some]

theorem pure_ShaHexes (x0 : ByteArray) : F.law02_ShaHexes x0 = some true := by
  rw [ofL_surj x0]
  generalize x0.data.toList = l
  unfold F.law02_ShaHexes
  by_cases h : (((ofL l).size : Nat) : Int) > 300
  · rw [ofL_size] at h
    rw [if_pos (by simpa [ofL_size] using h), chk_pos (by rw [ofL_size]; omega), Option.bind_some, ofL_extract]
    exact shaHexes_short (by simp; omega)
  · rw [ofL_size] at h
    rw [if_neg (by simpa [ofL_size] using h), Option.bind_some]
    exact shaHexes_short (by omega)

end Go.Proofs.Ytadhamgijkbgeaa
