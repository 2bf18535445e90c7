/- The document's roots: the powers in limbs are the powers. -/
import Derived.Test.YtadhamgijkbgeaaGRef
import Derived.Test.YtadhamgijkbgeaaPSha
import Derived.KernelRfl
namespace Go.Proofs.Ytadhamgijkbgeaa
set_option linter.all false
open Go Go.RowKit Go.Fw
set_option maxRecDepth 100000
attribute [local irreducible] FUEL

/-- ten limbs -/
def dg (v : Nat) : List Nat := (List.range 10).map fun t => v / 65536 ^ t % 65536
theorem dg_length (v : Nat) : (dg v).length = 10 := by simp [dg]
theorem dg_get (v : Nat) {t : Nat} (h : t < 10) : (dg v).getD t 0 = v / 65536 ^ t % 65536 := by simp [dg, h]
theorem low_limb {n m t s : Nat} (h : t < s) : (n + m * 65536 ^ s) / 65536 ^ t % 65536 = n / 65536 ^ t % 65536 := by
  obtain ⟨r, rfl⟩ : ∃ r, s = t + 1 + r := ⟨s - t - 1, by omega⟩
  have : m * 65536 ^ (t + 1 + r) = (65536 * (m * 65536 ^ r)) * 65536 ^ t := by rw [Nat.pow_add, Nat.pow_succ]; simp only [Nat.mul_comm, Nat.mul_left_comm, Nat.mul_assoc]
  rw [this, Nat.add_mul_div_right _ _ (Nat.pos_of_ne_zero (by simp))]
  omega
theorem dg_mod (n m : Nat) : dg (n + m * 65536 ^ 10) = dg n := by
  unfold dg
  refine List.map_congr_left fun t ht => ?_
  exact low_limb (List.mem_range.1 ht)

/-- limbs below s of one number, the others of another -/
def mixd (n b s : Nat) : List Nat := (List.range 10).map fun t => if t < s then n / 65536 ^ t % 65536 else b / 65536 ^ t % 65536
theorem mixd_get (n b s : Nat) {t : Nat} (h : t < 10) : (mixd n b s).getD t 0 = if t < s then n / 65536 ^ t % 65536 else b / 65536 ^ t % 65536 := by simp [mixd, h]
theorem mixd_length (n b s : Nat) : (mixd n b s).length = 10 := by simp [mixd]
theorem mixd_set {n b s m : Nat} (hs : s < 10) : (mixd n b s).set s ((n + m * 65536 ^ s) / 65536 ^ s % 65536) = mixd (n + m * 65536 ^ s) b (s + 1) := by
  apply List.ext_getElem
  · simp [mixd]
  · intro t h1 h2
    have ht : t < 10 := by simpa [mixd] using h2
    by_cases e : s = t
    · subst e; simp [mixd]
    · rw [List.getElem_set_ne e]
      simp only [mixd, List.getElem_map, List.getElem_range]
      by_cases hl : t < s
      · rw [if_pos hl, if_pos (by omega), low_limb hl]
      · rw [if_neg hl, if_neg (by omega)]
theorem zs_set (l : List Nat) (i v : Nat) : (zs l).set i (v : Int) = zs (l.set i v) := by simp [zs, List.map_set]

theorem limb_v {n q m : Nat} (h : q ≤ n) : (q % 65536 + m + (n - q)) % 65536 = (n + m) % 65536 ∧ (q % 65536 + m + (n - q)) / 65536 = (n + m) / 65536 - q / 65536 := by omega

section
variable {A B X : Nat}
def accN (A B y i j : Nat) : Nat := B + (A % 65536 ^ j) * y * 65536 ^ i
theorem accN_next (A B y i j : Nat) : accN A B y i (j + 1) = accN A B y i j + (A / 65536 ^ j % 65536 * y) * 65536 ^ (i + j) := by
  unfold accN
  rw [Nat.mod_pow_succ, Nat.pow_add, Nat.add_mul, Nat.add_mul]
  simp only [Nat.mul_comm, Nat.mul_left_comm, Nat.add_assoc]
def carN (A B y i j : Nat) : Nat := accN A B y i j / 65536 ^ (i + j) - B / 65536 ^ (i + j)
theorem acc_le (A B y i j : Nat) : B / 65536 ^ (i + j) ≤ accN A B y i j / 65536 ^ (i + j) := Nat.div_le_div_right (Nat.le_add_right _ _)
theorem acc_div (A B y i j : Nat) : accN A B y i (j + 1) / 65536 ^ (i + j) = accN A B y i j / 65536 ^ (i + j) + A / 65536 ^ j % 65536 * y := by
  rw [accN_next, Nat.add_mul_div_right _ _ (Nat.pos_of_ne_zero (by simp))]
theorem car_next (A B y i j : Nat) : carN A B y i (j + 1) = (B / 65536 ^ (i + j) % 65536 + A / 65536 ^ j % 65536 * y + carN A B y i j) / 65536 := by
  have h := (limb_v (m := A / 65536 ^ j % 65536 * y) (acc_le A B y i j)).2
  unfold carN
  rw [h, ← acc_div, Nat.div_div_eq_div_mul, Nat.div_div_eq_div_mul, ← Nat.pow_succ]
  rfl
theorem car_zero (A B y i : Nat) : carN A B y i 0 = 0 := by simp [carN, accN, Nat.mod_one]
theorem car_le (A B y i : Nat) (hy : y < 65536) : ∀ j, carN A B y i j ≤ 65535
  | 0 => by rw [car_zero]; omega
  | j + 1 => by
    have h := car_le A B y i hy j
    rw [car_next]
    have h1 : A / 65536 ^ j % 65536 * y ≤ 65535 * 65535 := Nat.mul_le_mul (by omega) (by omega)
    omega

theorem inner_step {A B x i j : Nat} (hi : i < 3) (hij : i + j < 10) :
    F.ref02_more.l2 (zs (dg A)) (x : Int) (i : Int) (zs (mixd (accN A B (x % 65536) i j) B (i + j))) ((carN A B (x % 65536) i j : Nat) : Int) (j : Int)
      = some (.inl (zs (mixd (accN A B (x % 65536) i (j + 1)) B (i + (j + 1))), ((carN A B (x % 65536) i (j + 1) : Nat) : Int), ((j + 1 : Nat) : Int))) := by
  unfold F.ref02_more.l2
  have e1 : IntKind.i64.wrap ((i : Int) + (j : Int)) = ((i + j : Nat) : Int) := by rw [w64 (by omega) (by omega)]; omega
  rw [if_pos (by simp; omega), e1, if_pos (by simp; omega)]
  show F.ref02_more.r1 _ _ _ _ _ _ = _
  unfold F.ref02_more.r1
  have g1 : at_ (zs (mixd (accN A B (x % 65536) i j) B (i + j))) ((i + j : Nat) : Int) = some ((B / 65536 ^ (i + j) % 65536 : Nat) : Int) := by
    refine at_pos (by omega) ?_
    rw [Int.toNat_natCast, zs_get (by rw [mixd_length]; omega), mixd_get _ _ _ hij, if_neg (by omega)]
  have g2 : at_ (zs (dg A)) (j : Int) = some ((A / 65536 ^ j % 65536 : Nat) : Int) := by
    refine at_pos (by omega) ?_
    rw [Int.toNat_natCast, zs_get (by rw [dg_length]; omega), dg_get _ (by omega)]
  have hc := car_le A B (x % 65536) i (by omega) j
  have hm : A / 65536 ^ j % 65536 * (x % 65536) ≤ 65535 * 65535 := Nat.mul_le_mul (by omega) (by omega)
  have e2 : IntKind.i64.wrap (((A / 65536 ^ j % 65536 : Nat) : Int) * ((x : Int).tmod 65536)) = ((A / 65536 ^ j % 65536 * (x % 65536) : Nat) : Int) := by
    have : ((x : Int).tmod 65536) = ((x % 65536 : Nat) : Int) := rfl
    rw [this, ← Int.natCast_mul, w64 (by omega) (by omega)]
  have e3 : IntKind.i64.wrap ((i : Int) + (j : Int)) = ((i + j : Nat) : Int) := e1
  have e4 : IntKind.i64.wrap ((j : Int) + 1) = ((j + 1 : Nat) : Int) := by rw [w64 (by omega) (by omega)]; omega
  rw [e1, g1, Option.bind_some, g2, Option.bind_some, Option.bind_some, e2, e4]
  generalize hq : B / 65536 ^ (i + j) % 65536 = q
  have hql : q < 65536 := by rw [← hq]; exact Nat.mod_lt _ (by decide)
  generalize hmm : A / 65536 ^ j % 65536 * (x % 65536) = m at hm
  have e5 : IntKind.i64.wrap (IntKind.i64.wrap ((q : Int) + (m : Int)) + ((carN A B (x % 65536) i j : Nat) : Int)) = ((q + m + carN A B (x % 65536) i j : Nat) : Int) := by
    rw [w64 (n := (q : Int) + (m : Int)) (by omega) (by omega), w64 (by omega) (by omega)]; omega
  have t1 : (((q + m + carN A B (x % 65536) i j : Nat) : Int)).tmod 65536 = (((q + m + carN A B (x % 65536) i j) % 65536 : Nat) : Int) := rfl
  have t2 : (((q + m + carN A B (x % 65536) i j : Nat) : Int)).tdiv 65536 = (((q + m + carN A B (x % 65536) i j) / 65536 : Nat) : Int) := rfl
  rw [e5, t1, t2, w64 (n := (((q + m + carN A B (x % 65536) i j) / 65536 : Nat) : Int)) (by omega) (by omega), Int.toNat_natCast, zs_set]
  have hv := (limb_v (m := A / 65536 ^ j % 65536 * (x % 65536)) (acc_le A B (x % 65536) i j)).1
  have hcn := car_next A B (x % 65536) i j
  rw [hq, hmm] at hcn
  rw [hq, hmm] at hv
  have hv' : (q + m + carN A B (x % 65536) i j) % 65536 = (accN A B (x % 65536) i j + m * 65536 ^ (i + j)) / 65536 ^ (i + j) % 65536 := by
    rw [Nat.add_mul_div_right _ _ (Nat.pos_of_ne_zero (by simp))]; exact hv
  rw [hv', mixd_set hij, ← hcn]
  have hn := accN_next A B (x % 65536) i j
  rw [hmm] at hn
  rw [← hn]
  rfl

theorem inner_eq {A B x i : Nat} (hi : i < 3) : iter (fun s => F.ref02_more.l2 (zs (dg A)) (x : Int) (i : Int) s.1 s.2.1 s.2.2) FUEL (zs (dg B), 0, 0) = some (zs (dg (B + A * (x % 65536) * 65536 ^ i))) := by
  have h1 := iter_count (f := fun s => F.ref02_more.l2 (zs (dg A)) (x : Int) (i : Int) s.1 s.2.1 s.2.2)
    (fun j => (zs (mixd (accN A B (x % 65536) i j) B (i + j)), ((carN A B (x % 65536) i j : Nat) : Int), (j : Int))) (n := 10 - i) (r := zs (dg (B + A * (x % 65536) * 65536 ^ i)))
    (fun j hj => by dsimp only; exact inner_step hi (by omega)) (by
      dsimp only
      have hf : mixd (accN A B (x % 65536) i (10 - i)) B (i + (10 - i)) = dg (B + A * (x % 65536) * 65536 ^ i) := by
        have : A * (x % 65536) * 65536 ^ i = (A % 65536 ^ (10 - i)) * (x % 65536) * 65536 ^ i + (A / 65536 ^ (10 - i) * (x % 65536)) * 65536 ^ 10 := by
          have hp : (65536 : Nat) ^ 10 = 65536 ^ (10 - i) * 65536 ^ i := by rw [← Nat.pow_add]; congr 1; omega
          conv => lhs; rw [← Nat.mod_add_div A (65536 ^ (10 - i))]
          rw [hp, Nat.add_mul, Nat.add_mul]
          simp only [Nat.mul_comm, Nat.mul_left_comm]
        rw [this, ← Nat.add_assoc, dg_mod]
        unfold mixd dg accN
        refine List.map_congr_left fun t ht => ?_
        have := List.mem_range.1 ht
        rw [if_pos (by omega)]
      unfold F.ref02_more.l2
      have e1 : IntKind.i64.wrap ((i : Int) + ((10 - i : Nat) : Int)) = 10 := by rw [w64 (by omega) (by omega)]; omega
      rw [e1, hf]
      by_cases h : i = 0
      · subst h; rw [if_neg (by decide)]; rfl
      · rw [if_pos (by simp; omega), if_neg (by decide)]; rfl) (k := FUEL) (by rw [FUEL_eq]; omega)
  have h0 : mixd (accN A B (x % 65536) i 0) B (i + 0) = dg B := by
    unfold mixd dg accN
    refine List.map_congr_left fun t ht => ?_
    simp [Nat.mod_one]
  rw [h0, car_zero] at h1
  exact h1

theorem mul_step {A x i : Nat} (hi : i < 3) (hx : x < 281474976710656) :
    F.ref02_more.l5 (zs (dg A)) (zs (dg (A * (x % 65536 ^ i)))) ((x / 65536 ^ i : Nat) : Int) (i : Int) = some (.inl (zs (dg (A * (x % 65536 ^ (i + 1)))), ((x / 65536 ^ (i + 1) : Nat) : Int), ((i + 1 : Nat) : Int))) := by
  unfold F.ref02_more.l5
  have hle : x / 65536 ^ i ≤ x := Nat.div_le_self _ _
  have e4 : IntKind.i64.wrap ((i : Int) + 1) = ((i + 1 : Nat) : Int) := by rw [w64 (by omega) (by omega)]; omega
  have t2 : (((x / 65536 ^ i : Nat) : Int)).tdiv 65536 = ((x / 65536 ^ i / 65536 : Nat) : Int) := rfl
  rw [if_pos (by simp; omega), inner_eq hi, Option.bind_some]
  unfold F.ref02_more.r3 F.ref02_more.r4
  have hb : A * (x % 65536 ^ i) + A * (x / 65536 ^ i % 65536) * 65536 ^ i = A * (x % 65536 ^ (i + 1)) := by
    rw [Nat.mod_pow_succ, Nat.mul_add, Nat.mul_assoc, Nat.mul_comm (x / 65536 ^ i % 65536)]
  have hw : IntKind.i64.wrap ((x / 65536 ^ i / 65536 : Nat) : Int) = ((x / 65536 ^ i / 65536 : Nat) : Int) := by
    generalize x / 65536 ^ i = y at hle
    exact w64 (by omega) (by omega)
  rw [Option.bind_some, e4, t2, hw, hb, Nat.div_div_eq_div_mul, ← Nat.pow_succ]

theorem pow_step {A x k n : Nat} (hk : k < n) (hn : n ≤ 3) (hx : x < 281474976710656) : F.ref02_more.l8 (x : Int) (n : Int) (zs (dg A)) (k : Int) = some (.inl (zs (dg (A * x)), ((k + 1 : Nat) : Int))) := by
  unfold F.ref02_more.l8
  have e4 : IntKind.i64.wrap ((k : Int) + 1) = ((k + 1 : Nat) : Int) := by rw [w64 (by omega) (by omega)]; omega
  have h1 := iter_count (f := fun s => F.ref02_more.l5 (zs (dg A)) s.1 s.2.1 s.2.2) (fun i => (zs (dg (A * (x % 65536 ^ i))), ((x / 65536 ^ i : Nat) : Int), (i : Int))) (n := 3) (r := zs (dg (A * x)))
    (fun i hi => by dsimp only; exact mul_step hi hx) (by
      dsimp only; unfold F.ref02_more.l5; rw [if_neg (by decide), Nat.mod_eq_of_lt (by omega)]) (k := FUEL) (by rw [FUEL_eq]; omega)
  simp only [Nat.pow_zero, Nat.mod_one, Nat.mul_zero, Nat.div_one] at h1
  have h1' : iter (fun s => F.ref02_more.l5 (zs (dg A)) s.1 s.2.1 s.2.2) FUEL (([0, 0, 0, 0, 0, 0, 0, 0, 0, 0] : List Int), (x : Int), 0) = some (zs (dg (A * x))) := h1
  rw [if_pos (by simp; omega), h1', Option.bind_some]
  unfold F.ref02_more.r6 F.ref02_more.r7
  rw [Option.bind_some, e4]

theorem pow_eq {x n : Nat} (hn : n ≤ 3) (hx : x < 281474976710656) : iter (fun s => F.ref02_more.l8 (x : Int) (n : Int) s.1 s.2) FUEL (([1, 0, 0, 0, 0, 0, 0, 0, 0, 0] : List Int), 0) = some (zs (dg (x ^ n))) := by
  have h1 := iter_count (f := fun s => F.ref02_more.l8 (x : Int) (n : Int) s.1 s.2) (fun k => (zs (dg (x ^ k)), (k : Int))) (n := n) (r := zs (dg (x ^ n)))
    (fun k hk => by dsimp only; rw [Nat.pow_succ]; exact pow_step hk hn hx) (by dsimp only; unfold F.ref02_more.l8; rw [if_neg (by simp)]) (k := FUEL) (by rw [FUEL_eq]; omega)
  rw [Nat.pow_zero] at h1
  exact h1

theorem cmp_eq {V U : Nat} {pw p : Int} (hU : ([0, 0, 0, 0, 0, 0, 0, 0, 0, 0] : List Int).set (IntKind.i64.wrap (2 * pw)).toNat p = zs (dg U)) (hV : V < 65536 ^ 10) (hUl : U < 65536 ^ 10) :
    ∀ (t k : Nat), t ≤ 10 → t < k → V / 65536 ^ t = U / 65536 ^ t → thru (iter (fun x => F.ref02_more.l10 pw p (zs (dg V)) x) k ((t : Int) - 1)) (fun _ => F.ref02_more.r11) = some (decide (V > U))
  | 0, k, _, hk, h => by
    obtain ⟨k, rfl⟩ : ∃ j, k = j + 1 := ⟨k - 1, by omega⟩
    have hs : F.ref02_more.l10 pw p (zs (dg V)) (((0 : Nat) : Int) - 1) = some (.inr (.inl ())) := by unfold F.ref02_more.l10; rw [if_neg (by decide)]
    rw [iter_stop hs]
    have : V = U := by simpa using h
    subst this
    show some false = _
    simp
  | t + 1, k, ht, hk, h => by
    obtain ⟨k, rfl⟩ : ∃ j, k = j + 1 := ⟨k - 1, by omega⟩
    have e0 : (((t + 1 : Nat) : Int) - 1) = (t : Int) := by omega
    have g1 : at_ (zs (dg V)) (t : Int) = some ((V / 65536 ^ t % 65536 : Nat) : Int) := at_pos (by omega) (by rw [Int.toNat_natCast, zs_get (by rw [dg_length]; omega), dg_get _ (by omega)])
    have g2 : at_ (zs (dg U)) (t : Int) = some ((U / 65536 ^ t % 65536 : Nat) : Int) := at_pos (by omega) (by rw [Int.toNat_natCast, zs_get (by rw [dg_length]; omega), dg_get _ (by omega)])
    rw [Nat.pow_succ, ← Nat.div_div_eq_div_mul, ← Nat.div_div_eq_div_mul] at h
    by_cases he : V / 65536 ^ t % 65536 = U / 65536 ^ t % 65536
    · have hs : F.ref02_more.l10 pw p (zs (dg V)) (t : Int) = some (.inl ((t : Int) - 1)) := by
        unfold F.ref02_more.l10
        rw [if_pos (by simp), hU, g1, Option.bind_some, g2, Option.bind_some, if_neg (by rw [he]; simp), w64 (by omega) (by omega)]
      rw [e0, iter_next hs rfl]
      exact cmp_eq hU hV hUl t k (by omega) (by omega) (by omega)
    · have hs : F.ref02_more.l10 pw p (zs (dg V)) (t : Int) = some (.inr (.inr (decide (V > U)))) := by
        unfold F.ref02_more.l10
        rw [if_pos (by simp), hU, g1, Option.bind_some, g2, Option.bind_some, if_pos (bne_iff_ne.2 fun h => he (Int.natCast_inj.1 h)), Option.bind_some, Option.bind_some]
        have : decide (((V / 65536 ^ t % 65536 : Nat) : Int) > ((U / 65536 ^ t % 65536 : Nat) : Int)) = decide (V > U) := by
          rw [decide_eq_decide]
          have hd : V / 65536 ^ t > U / 65536 ^ t ↔ V > U := by
            constructor
            · intro hg
              rcases Nat.lt_or_ge U V with h1 | h1
              · exact h1
              · have := Nat.div_le_div_right (c := 65536 ^ t) h1; omega
            · intro hg
              have := Nat.div_le_div_right (c := 65536 ^ t) (Nat.le_of_lt hg)
              omega
          rw [← hd]
          omega
        rw [this]
      rw [e0, iter_stop hs]
      rfl
theorem more_eq {x n p U : Nat} (hn : n ≤ 3) (hx : x < 1099511627776) (hU : ([0, 0, 0, 0, 0, 0, 0, 0, 0, 0] : List Int).set (IntKind.i64.wrap (2 * (n : Int))).toNat (p : Int) = zs (dg U)) (hUl : U < 65536 ^ 10) :
    F.ref02_more (x : Int) (n : Int) (p : Int) = some (decide (x ^ n > U)) := by
  unfold F.ref02_more
  rw [pow_eq hn (by omega), Option.bind_some]
  unfold F.ref02_more.r9
  have hw : IntKind.i64.wrap (2 * (n : Int)) = ((2 * n : Nat) : Int) := by rw [w64 (by omega) (by omega)]; omega
  have hg : at_ ([0, 0, 0, 0, 0, 0, 0, 0, 0, 0] : List Int) (IntKind.i64.wrap (2 * (n : Int))) = some 0 := by
    rw [hw]
    refine at_pos (by omega) ?_
    rw [Int.toNat_natCast]
    have : 2 * n < 10 := by omega
    exact (List.getElem?_replicate (n := 10) (a := (0 : Int)) (i := 2 * n)).trans (if_pos this)
  have hv : x ^ n < 65536 ^ 10 := by
    have h1 : x ^ n ≤ 1099511627776 ^ n := Nat.pow_le_pow_left (by omega) n
    have h2 : 1099511627776 ^ n ≤ 1099511627776 ^ 3 := Nat.pow_le_pow_right (by decide) hn
    have h3 : (1099511627776 : Nat) ^ 3 < 65536 ^ 10 := by decide
    omega
  rw [hg, Option.bind_some]
  have := cmp_eq (V := x ^ n) hU hv hUl 10 FUEL (by omega) (by rw [FUEL_eq]; omega) (by rw [Nat.div_eq_of_lt hv, Nat.div_eq_of_lt hUl])
  exact this
end

/-- the greatest number of so many bits whose power is not more -/
def rt (n U : Nat) : Nat → Nat → Nat
  | 0, x => x
  | b + 1, x => if (x + 2 ^ b) ^ n > U then rt n U b x else rt n U b (x + 2 ^ b)
theorem root_loop {n p U : Nat} (hn : n ≤ 3) (hU : ([0, 0, 0, 0, 0, 0, 0, 0, 0, 0] : List Int).set (IntKind.i64.wrap (2 * (n : Int))).toNat (p : Int) = zs (dg U)) (hUl : U < 65536 ^ 10) :
    ∀ (b x k : Nat), b ≤ 37 → x + 2 ^ b ≤ 2 ^ 37 → b < k → iter (fun s => F.ref02_root.l1 (p : Int) (n : Int) s.1 s.2) k ((x : Int), (b : Int) - 1) = some ((rt n U b x : Nat) : Int)
  | 0, x, k, _, _, hk => by
    obtain ⟨k, rfl⟩ : ∃ j, k = j + 1 := ⟨k - 1, by omega⟩
    refine iter_stop ?_
    dsimp only
    unfold F.ref02_root.l1
    rw [if_neg (by decide)]
    rfl
  | b + 1, x, k, hb, hx, hk => by
    obtain ⟨k, rfl⟩ : ∃ j, k = j + 1 := ⟨k - 1, by omega⟩
    have h37 : (2 : Nat) ^ 37 = 137438953472 := by decide
    have hbl : 2 ^ b ≤ 2 ^ 36 := Nat.pow_le_pow_right (by decide) (by omega)
    have h36 : (2 : Nat) ^ 36 = 68719476736 := by decide
    rw [Nat.pow_succ] at hx
    have e0 : (((b + 1 : Nat) : Int) - 1) = (b : Int) := by omega
    have e1 : IntKind.i64.wrap (1 * (2 : Int) ^ (min (b : Int).toNat 64)) = ((2 ^ b : Nat) : Int) := by
      rw [Int.toNat_natCast, Nat.min_eq_left (by omega), Int.one_mul]
      have : ((2 : Int) ^ b) = ((2 ^ b : Nat) : Int) := by simp
      rw [this, w64 (by omega) (by omega)]
    have e2 : IntKind.i64.wrap ((x : Int) + ((2 ^ b : Nat) : Int)) = ((x + 2 ^ b : Nat) : Int) := by rw [w64 (by omega) (by omega)]; omega
    have e3 : IntKind.i64.wrap ((b : Int) - 1) = (b : Int) - 1 := w64 (by omega) (by omega)
    have hs : F.ref02_root.l1 (p : Int) (n : Int) (x : Int) (b : Int) = some (.inl (if (x + 2 ^ b) ^ n > U then ((x : Int), (b : Int) - 1) else (((x + 2 ^ b : Nat) : Int), (b : Int) - 1))) := by
      unfold F.ref02_root.l1
      rw [if_pos (by simp), chk_pos (by omega), e1, e2, e3, more_eq hn (by omega) hU hUl, Option.bind_some]
      by_cases hc : (x + 2 ^ b) ^ n > U
      · rw [if_neg (by simp [hc]), if_pos hc]
      · rw [if_pos (by simp [hc]), if_neg hc]
    rw [e0, iter_next (f := fun s => F.ref02_root.l1 (p : Int) (n : Int) s.1 s.2) (s := ((x : Int), (b : Int))) hs rfl, rt]
    split
    · exact root_loop hn hU hUl b x k (by omega) (by omega) (by omega)
    · exact root_loop hn hU hUl b (x + 2 ^ b) k (by omega) (by omega) (by omega)
theorem want2 : ∀ p : Fin 400, ([0, 0, 0, 0, 0, 0, 0, 0, 0, 0] : List Int).set (IntKind.i64.wrap (2 * ((2 : Nat) : Int))).toNat (p.val : Int) = zs (dg (p.val * 65536 ^ 4)) := by decide +kernel
theorem want3 : ∀ p : Fin 400, ([0, 0, 0, 0, 0, 0, 0, 0, 0, 0] : List Int).set (IntKind.i64.wrap (2 * ((3 : Nat) : Int))).toNat (p.val : Int) = zs (dg (p.val * 65536 ^ 6)) := by decide +kernel
theorem root2 {p : Nat} (hp : p < 400) : F.ref02_root (p : Int) 2 = some ((rt 2 (p * 65536 ^ 4) 37 0 % 4294967296 : Nat) : Int) := by
  unfold F.ref02_root
  have h := root_loop (n := 2) (p := p) (U := p * 65536 ^ 4) (by omega) (want2 ⟨p, hp⟩) (by omega) 37 0 FUEL (by omega) (by omega) (by rw [FUEL_eq]; omega)
  have h' : iter (fun x => F.ref02_root.l1 (p : Int) 2 x.1 x.2) FUEL (0, 36) = some ((rt 2 (p * 65536 ^ 4) 37 0 : Nat) : Int) := h
  rw [h', Option.bind_some]
  rfl
theorem root3 {p : Nat} (hp : p < 400) : F.ref02_root (p : Int) 3 = some ((rt 3 (p * 65536 ^ 6) 37 0 % 4294967296 : Nat) : Int) := by
  unfold F.ref02_root
  have h := root_loop (n := 3) (p := p) (U := p * 65536 ^ 6) (by omega) (want3 ⟨p, hp⟩) (by omega) 37 0 FUEL (by omega) (by omega) (by rw [FUEL_eq]; omega)
  have h' : iter (fun x => F.ref02_root.l1 (p : Int) 3 x.1 x.2) FUEL (0, 36) = some ((rt 3 (p * 65536 ^ 6) 37 0 : Nat) : Int) := h
  rw [h', Option.bind_some]
  rfl

def PR : List Nat := [2, 3, 5, 7, 11, 13, 17, 19, 23, 29, 31, 37, 41, 43, 47, 53, 59, 61, 67, 71, 73, 79, 83, 89, 97, 101, 103, 107, 109, 113, 127, 131, 137, 139, 149, 151, 157, 163, 167, 173, 179, 181, 191, 193, 197, 199, 211, 223, 227, 229, 233, 239, 241, 251, 257, 263, 269, 271, 277, 281, 283, 293, 307, 311]
theorem primes_eq : F.ref02_primes 64 = some (zs PR) := by kernel_rfl
theorem PR_lt : ∀ i : Fin 64, PR.getD i.val 0 < 400 := by decide +kernel
theorem roots2 : ∀ i : Fin 8, rt 2 (PR.getD i.val 0 * 65536 ^ 4) 37 0 % 4294967296 = (H8.list shH).getD i.val 0 := by decide +kernel
theorem roots3 : ∀ i : Fin 64, rt 3 (PR.getD i.val 0 * 65536 ^ 6) 37 0 % 4294967296 = shK.getD i.val 0 := by decide +kernel
end Go.Proofs.Ytadhamgijkbgeaa
