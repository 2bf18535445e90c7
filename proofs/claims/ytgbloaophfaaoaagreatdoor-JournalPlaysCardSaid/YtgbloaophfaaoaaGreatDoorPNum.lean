/- Numbers as eight bytes, and back. -/
import Derived.Test.YtgbloaophfaaoaaGreatDoorGPlays
import Derived.Test.YtgbloaophfaaoaaGreatDoorGPlaysb
import Derived.Test.YtgbloaophfaaoaaGreatDoorPEight
namespace Go.Proofs.YtgbloaophfaaoaaGreatDoor
set_option linter.all false
open Go Go.RowKit Go.Fw
set_option maxRecDepth 100000
attribute [local irreducible] FUEL
theorem foldE_all {α τ ρ : Type} (g : τ → α → τ) (c : τ → ρ) : ∀ (l : List α) (i : Nat) (t : τ), foldE (fun _ t y => (.inl (g t y) : τ ⊕ ρ)) c l i t = c (l.foldl g t)
  | [], _, _ => rfl
  | y :: l, i, t => by unfold foldE; exact foldE_all g c l (i + 1) _
theorem number_eq {s : List UInt8} (hs : s.length ≤ 1000000) : F.guard_Number (ofL s) = some (num64 s) := by
  unfold F.guard_Number
  rw [ofL_size, chk_pos (by unfold maxLen; omega)]
  have h := iter_fold (f := fun (x : Int × Int) => F.guard_Number.l1 (ofL s) x.1 x.2) (fun i (t : Int) => (t, (i : Int))) (fun _ t (y : UInt8) => (.inl (IntKind.i64.wrap (t * 256 + y.toNat)) : Int ⊕ Int)) (fun t => t) (fun _ _ => True) s
    (fun i t y _ hy => ⟨by
      have hi := lt_of_get hy
      dsimp only
      unfold F.guard_Number.l1
      rw [sbytes_ofL, if_pos (by simp; omega), at_nat (y := (y.toNat : Int)) (by rw [List.getElem?_map, hy]; rfl), Option.bind_some, ior_step, wadd (by omega)], fun _ _ => trivial⟩)
    (fun t _ => by
      dsimp only
      unfold F.guard_Number.l1
      rw [sbytes_ofL, if_neg (by simp)]) (t0 := 0) trivial (k := FUEL) (by rw [FUEL_eq]; omega)
  refine (congrArg (fun o => Option.bind o _) h).trans ?_
  rw [foldE_all]
  rfl
theorem num_fix {n : Int} (h0 : -9223372036854775808 ≤ n) (h1 : n ≤ 9223372036854775807) : num64 (fixI 8 n) = n := by
  rw [num64_val, fixI_val]
  have h : IntKind.i64.wrap (n % ((256 ^ 8 : Nat) : Int)) = IntKind.i64.wrap n := wrap_congr (by
    have : ((256 ^ 8 : Nat) : Int) = 18446744073709551616 := by decide
    rw [this]; omega)
  rw [h, w64 h0 h1]
theorem u8I (x : Int) : IntKind.u8.wrap x = ((UInt8.ofNat (x % 256).toNat).toNat : Int) := by
  have h : (x % 256).toNat < 256 := by omega
  simp [IntKind.wrap, IntKind.bits, IntKind.signed]
  omega
/-- the bytes from the highest on -/
def hiB (x : Int) (i : Nat) : UInt8 := UInt8.ofNat (x / ((2 ^ (56 - 8 * i) : Nat) : Int) % 256).toNat
theorem fix_hi (x : Int) : fixI 8 x = (List.range 8).map (hiB x) := by
  have e : ∀ (y : Int) (a b : Int), 0 ≤ a → y / a / b = y / (a * b) := fun y a b h => Int.ediv_ediv_of_nonneg h
  have h : fixI 8 x = [UInt8.ofNat (x / 256 / 256 / 256 / 256 / 256 / 256 / 256 % 256).toNat, UInt8.ofNat (x / 256 / 256 / 256 / 256 / 256 / 256 % 256).toNat, UInt8.ofNat (x / 256 / 256 / 256 / 256 / 256 % 256).toNat, UInt8.ofNat (x / 256 / 256 / 256 / 256 % 256).toNat, UInt8.ofNat (x / 256 / 256 / 256 % 256).toNat, UInt8.ofNat (x / 256 / 256 % 256).toNat, UInt8.ofNat (x / 256 % 256).toNat, UInt8.ofNat (x % 256).toNat] := rfl
  rw [h]
  have hr : (List.range 8).map (hiB x) = [hiB x 0, hiB x 1, hiB x 2, hiB x 3, hiB x 4, hiB x 5, hiB x 6, hiB x 7] := rfl
  rw [hr]
  unfold hiB
  simp only [Nat.sub_zero, Nat.mul_zero, List.cons.injEq, and_true]
  refine ⟨?_, ?_, ?_, ?_, ?_, ?_, ?_, ?_⟩ <;> (apply congrArg UInt8.ofNat; apply congrArg Int.toNat; simp; try omega)
theorem geight_eq (x : Int) : F.guard_Eight x = some (ofL (fixI 8 x)) := by
  unfold F.guard_Eight
  rw [chk_pos (by decide)]
  have e := iter_count (f := fun (q : List Int × Int) => F.guard_Eight.l1 x q.1 q.2) (fun i => (ns ((List.range i).map (hiB x)) ++ List.replicate (8 - i) 0, (i : Int))) (n := 8) (r := ns ((List.range 8).map (hiB x))) (fun i hi => by
    dsimp only
    unfold F.guard_Eight.l1
    have hlen : (ns ((List.range i).map (hiB x))).length = i := by rw [ns_length, List.length_map, List.length_range]
    obtain ⟨k, hk⟩ : ∃ k, 8 - i = k + 1 := ⟨8 - i - 1, by omega⟩
    have hw : IntKind.i64.wrap (56 - IntKind.i64.wrap (8 * (i : Int))) = ((56 - 8 * i : Nat) : Int) := by rw [w64 (n := 8 * (i : Int)) (by omega) (by omega), w64 (by omega) (by omega)]; omega
    have hat : at_ (ns ((List.range i).map (hiB x)) ++ List.replicate (8 - i) 0) (i : Int) = some 0 := at_nat (by rw [List.getElem?_append_right (by omega), hlen, Nat.sub_self, hk]; rfl)
    rw [if_pos (by rw [List.length_replicate]; simp; omega), hw, chk_pos (by omega), hat, Option.bind_some, wadd (by omega), Int.toNat_natCast, Int.toNat_natCast]
    have hmin : min (56 - 8 * i) 64 = 56 - 8 * i := by omega
    rw [hmin, Int.fdiv_eq_ediv_of_nonneg _ (by exact Int.le_of_lt (Int.pow_pos (by decide))), u8I]
    have hp : (2 : Int) ^ (56 - 8 * i) = ((2 ^ (56 - 8 * i) : Nat) : Int) := by simp
    rw [hp, List.set_append_right _ _ (by omega), hlen, Nat.sub_self, hk, List.replicate_succ, List.set_cons_zero, show 8 - (i + 1) = k by omega, List.range_succ, List.map_append]
    unfold ns
    rw [List.map_append, List.append_assoc]
    rfl)
    (by
      dsimp only
      unfold F.guard_Eight.l1
      rw [if_neg (by decide)]
      rw [Nat.sub_self, List.replicate_zero, List.append_nil]) (k := FUEL) (by rw [FUEL_eq]; omega)
  refine (congrArg (fun o => Option.bind o _) e).trans ?_
  rw [Option.bind_some]
  unfold F.guard_Eight.r2
  rw [bstr_ns, ← fix_hi]
theorem wf_i64 {n : Int} (h : (Lit.int .i64 n).wf = true) : -9223372036854775808 ≤ n ∧ n ≤ 9223372036854775807 := by
  have hm : IntKind.i64.min = -9223372036854775808 := rfl
  have h : IntKind.i64.min ≤ n ∧ n ≤ 9223372036854775807 := by simpa [Lit.wf] using h
  rw [hm] at h
  exact h
end Go.Proofs.YtgbloaophfaaoaaGreatDoor
