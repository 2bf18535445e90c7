/- What Hex answers, as lists of bytes. -/
import Derived.Test.YtadhamgijkbgeaaGSha
import Derived.Test.YtadhamgijkbgeaaFwM
namespace Go.Proofs.Ytadhamgijkbgeaa
set_option linter.all false
open Go Go.RowKit Go.Fw
set_option maxRecDepth 100000
attribute [local irreducible] FUEL
def SG : List UInt8 := [48, 49, 50, 51, 52, 53, 54, 55, 56, 57, 97, 98, 99, 100, 101, 102]
def sg (n : Nat) : UInt8 := (SG[n]?).getD 0
def hex1 (b : UInt8) : List UInt8 := [sg (b.toNat / 16), sg (b.toNat % 16)]
def hexes (l : List UInt8) : List UInt8 := l.flatMap hex1
theorem hexes_length (l : List UInt8) : (hexes l).length = 2 * l.length := by
  induction l with
  | nil => rfl
  | cons a l ih => rw [hexes, List.flatMap_cons, List.length_append, ← hexes, ih]; simp [hex1]; omega
theorem hexes_next {l : List UInt8} {i : Nat} {b : UInt8} (h : l[i]? = some b) : hexes (l.take (i + 1)) = hexes (l.take i) ++ hex1 b := by
  rw [List.take_add_one, h]
  simp [hexes]
theorem signs_eq : (ByteArray.mk #[48, 49, 50, 51, 52, 53, 54, 55, 56, 57, 97, 98, 99, 100, 101, 102]) = ofL SG := rfl
theorem fdiv_nat (n : Nat) (d : Nat) : ((n : Int)).fdiv (d : Int) = ((n / d : Nat) : Int) := by
  rw [Int.fdiv_eq_ediv_of_nonneg _ (by omega)]; rfl
theorem iand15 : ∀ n : Fin 256, iand .u8 ((n.val : Nat) : Int) 15 = ((n.val % 16 : Nat) : Int) := by decide +kernel
theorem bt_sg (n : Nat) : bt (ofL SG) (n : Int) = ((sg n).toNat : Int) := by rw [bt_ofL]; rfl

theorem hex_step {l : List UInt8} {i : Nat} (hl : l.length ≤ 1000000000) (hi : i < l.length) :
    F.sha_Hex.l1 (ofL l) ((hexes (l.take i)).map fun b => (b.toNat : Int)) (i : Int) = some (.inl ((hexes (l.take (i + 1))).map (fun b => (b.toNat : Int)), ((i + 1 : Nat) : Int))) := by
  have hb := List.getElem?_eq_getElem hi
  generalize l[i] = b at hb
  have hlt : b.toNat < 256 := b.toNat_lt
  unfold F.sha_Hex.l1
  rw [sbytes_ofL, List.length_map, if_pos (by simp; omega), at_pos (x := (b.toNat : Int)) (by omega) (by simp [hb]), Option.bind_some, signs_eq, ofL_size]
  have h1 : ((b.toNat : Int)).fdiv (2 ^ 4) = ((b.toNat / 16 : Nat) : Int) := fdiv_nat b.toNat 16
  have h2 : iand .u8 (b.toNat : Int) 15 = ((b.toNat % 16 : Nat) : Int) := iand15 ⟨b.toNat, hlt⟩
  rw [h1, h2, chk_pos (by simp only [SG, List.length_cons, List.length_nil]; omega), chk_pos (by simp only [SG, List.length_cons, List.length_nil]; omega), bt_sg, bt_sg]
  have hlen := hexes_length (l.take i)
  rw [List.length_take, Nat.min_eq_left (by omega)] at hlen
  rw [chk_pos (by rw [List.length_map, hlen]; unfold room; simp; omega), w64 (by omega) (by omega), hexes_next hb]
  simp [hex1]

theorem hex_sum {l : List UInt8} (hl : l.length ≤ 1000000000) : F.sha_Hex (ofL l) = some (ofL (hexes l)) := by
  unfold F.sha_Hex
  rw [chk_pos (by rw [ofL_size]; unfold maxLen; omega)]
  have h := iter_count (f := fun x => F.sha_Hex.l1 (ofL l) x.1 x.2) (fun i => ((hexes (l.take i)).map fun b => (b.toNat : Int), (i : Int))) (n := l.length) (r := (hexes l).map fun b => (b.toNat : Int))
    (fun i hi => by dsimp only; exact hex_step hl hi) (by
      show F.sha_Hex.l1 (ofL l) _ (l.length : Int) = _
      unfold F.sha_Hex.l1
      rw [sbytes_ofL, List.length_map, if_neg (by simp), List.take_length])
    (k := FUEL) (by rw [FUEL_eq]; omega)
  have h0 : iter (fun x => F.sha_Hex.l1 (ofL l) x.1 x.2) FUEL ([], 0) = some ((hexes l).map fun b => (b.toNat : Int)) := h
  rw [h0, Option.bind_some]
  unfold F.sha_Hex.r2
  rw [bstr_ofL, List.map_map]
  congr 2
  conv => rhs; rw [← List.map_id (hexes l)]
  exact List.map_congr_left fun b _ => u8_back b

end Go.Proofs.Ytadhamgijkbgeaa
