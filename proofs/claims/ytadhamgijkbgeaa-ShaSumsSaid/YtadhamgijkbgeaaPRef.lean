/- The document's sum is sha256, too. -/
import Derived.Test.YtadhamgijkbgeaaPRoot
import Derived.Test.YtadhamgijkbgeaaPShb
namespace Go.Proofs.Ytadhamgijkbgeaa
set_option linter.all false
open Go Go.RowKit Go.Fw
set_option maxRecDepth 100000
attribute [local irreducible] FUEL

theorem lt63 {a : Nat} (h : a < 4294967296) : a < 9223372036854775808 := by omega
theorem rturn_eq {x : Nat} (hx : x < 4294967296) (k : Nat) {K : Int} (hK : K = (k : Int)) (h0 : 0 < k) (h1 : k < 32) : F.ref02_turn (x : Int) K = some ((rot k x : Nat) : Int) := by
  subst hK
  unfold F.ref02_turn
  have e1 : IntKind.i64.wrap (32 - (k : Int)) = ((32 - k : Nat) : Int) := by rw [w64 (by omega) (by omega)]; omega
  have hp : 2 ^ (32 - k) ≤ 2 ^ 31 := Nat.pow_le_pow_right (by decide) (by omega)
  have h31 : (2 : Nat) ^ 31 = 2147483648 := by decide
  have hm : x * 2 ^ (32 - k) ≤ 4294967295 * 2147483648 := Nat.mul_le_mul (by omega) (by omega)
  have h4 : (4294967295 : Int) = ((4294967295 : Nat) : Int) := rfl
  rw [chk_pos (by omega), e1, chk_pos (by omega), Int.toNat_natCast, Int.toNat_natCast, Nat.min_eq_left (by omega), Nat.min_eq_left (by omega), fdiv_pow, mul_pow, w64 (n := ((x * 2 ^ (32 - k) : Nat) : Int)) (by omega) (by omega),
    ior64 (lt63 (div_lt32 _ hx)) (by omega), h4, iand64 (@Nat.or_lt_two_pow _ _ 63 (lt63 (div_lt32 _ hx)) (by show _ < 9223372036854775808; omega)) (by decide)]
  have h5 : (x / 2 ^ k ||| x * 2 ^ (32 - k)) &&& 4294967295 = rot k x := by
    have := Nat.and_two_pow_sub_one_eq_mod (x / 2 ^ k ||| x * 2 ^ (32 - k)) 32
    have h6 : (2 : Nat) ^ 32 - 1 = 4294967295 := by decide
    rw [h6] at this
    rw [this, Nat.or_mod_two_pow, Nat.or_comm]
    have h7 : (x / 2 ^ k) % 2 ^ 32 = x / 2 ^ k := Nat.mod_eq_of_lt (div_lt32 _ hx)
    rw [h7]
    rfl
  rw [h5]

section
variable {b : List UInt8}
theorem rwords1 (hb : b.length = 64) {i : Nat} (hi : i < 16) : F.ref02_words.l1 (ofL b) (zs (wL b i)) (i : Int) = some (.inl (zs (wL b (i + 1)), ((i + 1 : Nat) : Int))) := by
  unfold F.ref02_words.l1
  have e0 : IntKind.i64.wrap (4 * (i : Int)) = ((4 * i : Nat) : Int) := by rw [w64 (by omega) (by omega)]; omega
  have e1 : IntKind.i64.wrap (((4 * i : Nat) : Int) + 1) = ((4 * i + 1 : Nat) : Int) := by rw [w64 (by omega) (by omega)]; omega
  have e2 : IntKind.i64.wrap (((4 * i : Nat) : Int) + 2) = ((4 * i + 2 : Nat) : Int) := by rw [w64 (by omega) (by omega)]; omega
  have e3 : IntKind.i64.wrap (((4 * i : Nat) : Int) + 3) = ((4 * i + 3 : Nat) : Int) := by rw [w64 (by omega) (by omega)]; omega
  have e4 : IntKind.i64.wrap ((i : Int) + 1) = ((i + 1 : Nat) : Int) := by rw [w64 (by omega) (by omega)]; omega
  rw [if_pos (by simp; omega), e0, e1, e2, e3, e4, ofL_size, chk_pos (by omega), chk_pos (by omega), chk_pos (by omega), chk_pos (by omega),
    bt_byt b (4 * i) rfl, bt_byt b (4 * i + 1) rfl, bt_byt b (4 * i + 2) rfl, bt_byt b (4 * i + 3) rfl]
  have h := byt_lt b
  have h0 := h (4 * i); have h1 := h (4 * i + 1); have h2 := h (4 * i + 2); have h3 := h (4 * i + 3)
  have g0 : IntKind.i64.wrap (((byt b (4 * i) : Nat) : Int)) * 2 ^ 24 = ((byt b (4 * i) * 2 ^ 24 : Nat) : Int) := by rw [w64 (by omega) (by omega), ← mul_pow]
  have g1 : IntKind.i64.wrap (((byt b (4 * i + 1) : Nat) : Int)) * 2 ^ 16 = ((byt b (4 * i + 1) * 2 ^ 16 : Nat) : Int) := by rw [w64 (by omega) (by omega), ← mul_pow]
  have g2 : IntKind.i64.wrap (((byt b (4 * i + 2) : Nat) : Int)) * 2 ^ 8 = ((byt b (4 * i + 2) * 2 ^ 8 : Nat) : Int) := by rw [w64 (by omega) (by omega), ← mul_pow]
  rw [g0, g1, g2, w64 (n := ((byt b (4 * i) * 2 ^ 24 : Nat) : Int)) (by omega) (by omega), w64 (n := ((byt b (4 * i + 1) * 2 ^ 16 : Nat) : Int)) (by omega) (by omega), w64 (n := ((byt b (4 * i + 2) * 2 ^ 8 : Nat) : Int)) (by omega) (by omega), w64 (n := ((byt b (4 * i + 3) : Nat) : Int)) (by omega) (by omega)]
  rw [ior64 (by omega) (by omega), ior64 (lt63 (or32 (by omega) (by omega))) (by omega), ior64 (lt63 (or32 (or32 (by omega) (by omega)) (by omega))) (by omega)]
  have hw : wL b (i + 1) = wL b i ++ [w4 b i] := by rw [wL, if_pos hi]
  rw [hw, zs_app, chk_pos (by rw [zs_length, wL_length]; simp only [room, List.length_cons, List.length_nil]; omega)]
  rfl

theorem rwnext_eq {x1 x2 x3 x4 : Nat} (h1 : x1 < 4294967296) (h2 : x2 < 4294967296) (h3 : x3 < 4294967296) (h4 : x4 < 4294967296) :
    (IntKind.i64.wrap (IntKind.i64.wrap (IntKind.i64.wrap ((x3 : Int) + ixor .i64 (ixor .i64 ((rot 7 x1 : Nat) : Int) ((rot 18 x1 : Nat) : Int)) (((x1 : Nat) : Int).fdiv (2 ^ 3))) + (x4 : Int)) + ixor .i64 (ixor .i64 ((rot 17 x2 : Nat) : Int) ((rot 19 x2 : Nat) : Int)) (((x2 : Nat) : Int).fdiv (2 ^ 10)))).tmod 4294967296
      = (((x3 + sgA x1 + x4 + sgB x2) % 4294967296 : Nat) : Int) := by
  have f1 : (((x1 : Nat) : Int).fdiv (2 ^ 3)) = ((x1 / 2 ^ 3 : Nat) : Int) := fdiv_pow x1 3
  have f2 : (((x2 : Nat) : Int).fdiv (2 ^ 10)) = ((x2 / 2 ^ 10 : Nat) : Int) := fdiv_pow x2 10
  rw [f1, f2, ixor64 (lt63 (rot_lt h1)) (lt63 (rot_lt h1)), ixor64 (lt63 (xor32 (rot_lt h1) (rot_lt h1))) (lt63 (div_lt32 _ h1)), ixor64 (lt63 (rot_lt h2)) (lt63 (rot_lt h2)), ixor64 (lt63 (xor32 (rot_lt h2) (rot_lt h2))) (lt63 (div_lt32 _ h2))]
  show (IntKind.i64.wrap (IntKind.i64.wrap (IntKind.i64.wrap ((x3 : Int) + ((sgA x1 : Nat) : Int)) + (x4 : Int)) + ((sgB x2 : Nat) : Int))).tmod 4294967296 = _
  have g1 := sgA_lt h1
  have g2 := sgB_lt h2
  generalize sgA x1 = y1 at *
  generalize sgB x2 = y2 at *
  rw [w64 (n := (x3 : Int) + (y1 : Int)) (by omega) (by omega), w64 (n := (x3 : Int) + (y1 : Int) + (x4 : Int)) (by omega) (by omega), w64 (by omega) (by omega)]
  have : (x3 : Int) + (y1 : Int) + (x4 : Int) + (y2 : Int) = ((x3 + y1 + x4 + y2 : Nat) : Int) := by omega
  rw [this]
  rfl

theorem rwords3 (i : Nat) (h16 : 16 ≤ i) (hi : i < 64) : F.ref02_words.l3 (zs (wL b i)) (i : Int) = some (.inl (zs (wL b (i + 1)), ((i + 1 : Nat) : Int))) := by
  unfold F.ref02_words.l3
  have e (d : Nat) (hd : d ≤ 16) {D : Int} (hD : D = (d : Int)) : IntKind.i64.wrap ((i : Int) - D) = ((i - d : Nat) : Int) := by subst hD; rw [w64 (by omega) (by omega)]; omega
  have e4 : IntKind.i64.wrap ((i : Int) + 1) = ((i + 1 : Nat) : Int) := by rw [w64 (by omega) (by omega)]; omega
  have hget (d : Nat) (h0 : 0 < d) (hd : d ≤ 16) : at_ (zs (wL b i)) ((i - d : Nat) : Int) = some (((wL b i).getD (i - d) 0 : Nat) : Int) := by
    refine at_pos (by omega) ?_
    rw [Int.toNat_natCast, zs_get (by rw [wL_length]; omega)]
  have l1 := getD_lt (wL_lt b i) (i - 15)
  have l2 := getD_lt (wL_lt b i) (i - 2)
  have l3 := getD_lt (wL_lt b i) (i - 16)
  have l4 := getD_lt (wL_lt b i) (i - 7)
  have t1 := rturn_eq l1 7 (K := 7) rfl (by decide) (by decide)
  have t2 := rturn_eq l1 18 (K := 18) rfl (by decide) (by decide)
  have t3 := rturn_eq l2 17 (K := 17) rfl (by decide) (by decide)
  have t4 := rturn_eq l2 19 (K := 19) rfl (by decide) (by decide)
  rw [if_pos (by simp; omega), e 15 (by omega) (D := 15) rfl, e 2 (by omega) (D := 2) rfl, e 16 (by omega) (D := 16) rfl, e 7 (by omega) (D := 7) rfl, e4]
  rw [hget 15 (by omega) (by omega), Option.bind_some, Option.bind_some, Option.bind_some, t1, Option.bind_some, t2, Option.bind_some, hget 2 (by omega) (by omega), Option.bind_some, Option.bind_some, Option.bind_some, t3, Option.bind_some, t4, Option.bind_some, hget 16 (by omega) (by omega), Option.bind_some, hget 7 (by omega) (by omega), Option.bind_some, rwnext_eq l1 l2 l3 l4]
  have hw : wL b (i + 1) = wL b i ++ [wN (wL b i) i] := by rw [wL, if_neg (by omega)]
  rw [hw, zs_app, chk_pos (by rw [zs_length, wL_length]; simp only [room, List.length_cons, List.length_nil]; omega)]
  rfl
theorem rwords_eq (hb : b.length = 64) : F.ref02_words (ofL b) = some (zs (wL b 64)) := by
  unfold F.ref02_words
  have h1 := iter_count (f := fun x => F.ref02_words.l1 (ofL b) x.1 x.2) (fun i => (zs (wL b i), (i : Int))) (n := 16) (r := zs (wL b 16))
    (fun i hi => by dsimp only; exact rwords1 hb hi) (by dsimp only; unfold F.ref02_words.l1; rw [if_neg (by decide)]) (k := FUEL) (by rw [FUEL_eq]; omega)
  refine (congrArg (fun o => Option.bind o _) h1).trans ?_
  have h2 := iter_count (f := fun x => F.ref02_words.l3 x.1 x.2) (fun i => (zs (wL b (16 + i)), ((16 + i : Nat) : Int))) (n := 48) (r := zs (wL b 64))
    (fun i hi => by dsimp only; exact rwords3 (16 + i) (by omega) (by omega)) (by dsimp only; unfold F.ref02_words.l3; rw [if_neg (by decide)]) (k := FUEL) (by rw [FUEL_eq]; omega)
  rw [Option.bind_some]
  unfold F.ref02_words.r2
  refine (congrArg (fun o => Option.bind o _) h2).trans ?_
  rfl
end

theorem ones_xor {e : Nat} (h : e < 4294967296) : 4294967295 ^^^ e = 4294967295 - e := by
  have := congrArg BitVec.toNat (BitVec.allOnes_xor (x := BitVec.ofNat 32 e))
  rw [BitVec.toNat_xor, BitVec.toNat_allOnes, BitVec.toNat_not, BitVec.toNat_ofNat, Nat.mod_eq_of_lt h] at this
  exact this
theorem tm32 (n : Nat) : ((n : Int)).tmod 4294967296 = ((n % 4294967296 : Nat) : Int) := rfl
theorem shR_a (w : List Nat) (i : Nat) (v : H8) : (shR w i v).a = (v.h + sgE v.e + shCh v.e v.f v.g + shK.getD i 0 + w.getD i 0 + (sgF v.a + shMaj v.a v.b v.c)) % 4294967296 := by unfold shR; dsimp only
theorem shR_e (w : List Nat) (i : Nat) (v : H8) : (shR w i v).e = (v.d + (v.h + sgE v.e + shCh v.e v.f v.g + shK.getD i 0 + w.getD i 0)) % 4294967296 := by unfold shR; dsimp only
theorem add3 {t a b : Nat} (ht : t < 21474836480) (ha : a < 4294967296) (hb : b < 4294967296) : (IntKind.i64.wrap (IntKind.i64.wrap ((t : Int) + (a : Int)) + (b : Int))).tmod 4294967296 = (((t + (a + b)) % 4294967296 : Nat) : Int) := by
  have h : (t : Int) + (a : Int) + (b : Int) = ((t + (a + b) : Nat) : Int) := by omega
  rw [w64 (n := (t : Int) + (a : Int)) (by omega) (by omega), w64 (by omega) (by omega), h, tm32]
theorem add2 {d t : Nat} (hd : d < 4294967296) (ht : t < 21474836480) : (IntKind.i64.wrap ((d : Int) + (t : Int))).tmod 4294967296 = (((d + t) % 4294967296 : Nat) : Int) := by
  rw [w64 (by omega) (by omega), ← Int.natCast_add, tm32]
theorem add5 {h s c k w : Nat} (h1 : h < 4294967296) (h2 : s < 4294967296) (h3 : c < 4294967296) (h4 : k < 4294967296) (h5 : w < 4294967296) :
    IntKind.i64.wrap (IntKind.i64.wrap (IntKind.i64.wrap (IntKind.i64.wrap ((h : Int) + (s : Int)) + (c : Int)) + (k : Int)) + (w : Int)) = ((h + s + c + k + w : Nat) : Int) ∧ h + s + c + k + w < 21474836480 := by
  refine ⟨?_, by omega⟩
  rw [w64 (n := (h : Int) + (s : Int)) (by omega) (by omega), w64 (n := (h : Int) + (s : Int) + (c : Int)) (by omega) (by omega), w64 (n := (h : Int) + (s : Int) + (c : Int) + (k : Int)) (by omega) (by omega), w64 (by omega) (by omega)]
  omega
theorem rround_eq {w : List Nat} (hw : w.length = 64) (hwl : ∀ x ∈ w, x < 4294967296) {i : Nat} (hi : i < 64) {v : H8} (hv : v.ok) :
    F.ref02_block.l1 (zs shK) (zs w) (zs v.list) (i : Int) = some (.inl (zs (shR w i v).list, ((i + 1 : Nat) : Int))) := by
  obtain ⟨ha, hb, hc, hd, he, hf, hg, hh⟩ := hv
  unfold F.ref02_block.l1
  have e4 : IntKind.i64.wrap ((i : Int) + 1) = ((i + 1 : Nat) : Int) := by rw [w64 (by omega) (by omega)]; omega
  have hgk : at_ (zs shK) (i : Int) = some ((shK.getD i 0 : Nat) : Int) := at_pos (by omega) (by rw [Int.toNat_natCast, zs_get (by rw [show shK.length = 64 from rfl]; omega)])
  have hgw : at_ (zs w) (i : Int) = some ((w.getD i 0 : Nat) : Int) := at_pos (by omega) (by rw [Int.toNat_natCast, zs_get (by omega)])
  have g0 : at_ (zs v.list) 0 = some (v.a : Int) := rfl
  have g1 : at_ (zs v.list) 1 = some (v.b : Int) := rfl
  have g2 : at_ (zs v.list) 2 = some (v.c : Int) := rfl
  have g3 : at_ (zs v.list) 3 = some (v.d : Int) := rfl
  have g4 : at_ (zs v.list) 4 = some (v.e : Int) := rfl
  have g5 : at_ (zs v.list) 5 = some (v.f : Int) := rfl
  have g6 : at_ (zs v.list) 6 = some (v.g : Int) := rfl
  have g7 : at_ (zs v.list) 7 = some (v.h : Int) := rfl
  have t1 := rturn_eq he 6 (K := 6) rfl (by decide) (by decide)
  have t2 := rturn_eq he 11 (K := 11) rfl (by decide) (by decide)
  have t3 := rturn_eq he 25 (K := 25) rfl (by decide) (by decide)
  have t4 := rturn_eq ha 2 (K := 2) rfl (by decide) (by decide)
  have t5 := rturn_eq ha 13 (K := 13) rfl (by decide) (by decide)
  have t6 := rturn_eq ha 22 (K := 22) rfl (by decide) (by decide)
  have hx : IntKind.i64.wrap (4294967295 - (v.e : Int)) = ((4294967295 ^^^ v.e : Nat) : Int) := by rw [ones_xor he, w64 (by omega) (by omega)]; omega
  rw [if_pos (by simp; omega)]
  rw [g0, g1, g2, g3, g4, g5, g6, g7, hgk, hgw, Option.bind_some, Option.bind_some, Option.bind_some, t1, Option.bind_some, t2, Option.bind_some, t3, Option.bind_some, Option.bind_some, Option.bind_some, Option.bind_some, Option.bind_some, Option.bind_some, Option.bind_some, Option.bind_some, Option.bind_some, Option.bind_some, Option.bind_some, t4, Option.bind_some, t5, Option.bind_some, t6, Option.bind_some, Option.bind_some, Option.bind_some, Option.bind_some, Option.bind_some, Option.bind_some, Option.bind_some, Option.bind_some, Option.bind_some, Option.bind_some, Option.bind_some, Option.bind_some, Option.bind_some, Option.bind_some, e4, hx]
  rw [iand64 (lt63 he) (lt63 hf), iand64 (lt63 (xor32 (by decide) he)) (lt63 hg), ixor64 (lt63 (and32 hf)) (lt63 (and32 hg)), ixor64 (lt63 (rot_lt he)) (lt63 (rot_lt he)), ixor64 (lt63 (xor32 (rot_lt he) (rot_lt he))) (lt63 (rot_lt he)), ixor64 (lt63 (rot_lt ha)) (lt63 (rot_lt ha)), ixor64 (lt63 (xor32 (rot_lt ha) (rot_lt ha))) (lt63 (rot_lt ha)),
    iand64 (lt63 ha) (lt63 hb), iand64 (lt63 ha) (lt63 hc), iand64 (lt63 hb) (lt63 hc), ixor64 (lt63 (and32 hb)) (lt63 (and32 hc)), ixor64 (lt63 (xor32 (and32 hb) (and32 hc))) (lt63 (and32 hc))]
  have b1 := sgE_lt he
  have b2 := sgF_lt ha
  have b3 : shCh v.e v.f v.g < 4294967296 := xor32 (and32 hf) (and32 hg)
  have b4 : shMaj v.a v.b v.c < 4294967296 := xor32 (xor32 (and32 hb) (and32 hc)) (and32 hc)
  have b5 := shK_lt i
  have b6 := getD_lt hwl i
  obtain ⟨e1, hT⟩ := add5 hh b1 b3 b5 b6
  have e2 := add3 hT b2 b4
  have e3 := add2 hd hT
  rw [← shR_a] at e2
  rw [← shR_e] at e3
  unfold sgE shCh at e1 e2 e3
  unfold sgF shMaj at e2
  rw [e1, e2, e3]
  rfl

theorem rblock_eq {b : List UInt8} (hb : b.length = 64) {v : H8} (hv : v.ok) : F.ref02_block (zs v.list) (zs shK) (ofL b) = some (zs (shB v b).list) := by
  unfold F.ref02_block
  have hl : v.list.length = 8 := rfl
  rw [rwords_eq hb, Option.bind_some, chk_pos (by rw [zs_length, hl]; simp [room])]
  have h1 := iter_count (f := fun x => F.ref02_block.l1 (zs shK) (zs (wL b 64)) x.1 x.2) (fun i => (zs (shV (wL b 64) v i).list, (i : Int))) (n := 64) (r := zs (shV (wL b 64) v 64).list)
    (fun i hi => by dsimp only; exact rround_eq (wL_length _ _) (wL_lt _ _) hi (shV_ok _ hv i)) (by dsimp only; unfold F.ref02_block.l1; rw [if_neg (by decide)]) (k := FUEL) (by rw [FUEL_eq]; omega)
  refine (congrArg (fun o => Option.bind o _) h1).trans ?_
  rw [Option.bind_some]
  unfold F.ref02_block.r2
  have hu := shV_ok (wL b 64) hv 64
  generalize hue : shV (wL b 64) v 64 = u at hu
  have hB : (shB v b).list = [(v.a + u.a) % 4294967296, (v.b + u.b) % 4294967296, (v.c + u.c) % 4294967296, (v.d + u.d) % 4294967296, (v.e + u.e) % 4294967296, (v.f + u.f) % 4294967296, (v.g + u.g) % 4294967296, (v.h + u.h) % 4294967296] := by
    unfold shB; rw [hue]; rfl
  have hgB : ∀ i : Nat, i < 8 → v.list.getD i 0 < 4294967296 ∧ u.list.getD i 0 < 4294967296 ∧ (shB v b).list.getD i 0 = (v.list.getD i 0 + u.list.getD i 0) % 4294967296 := by
    intro i hi
    rw [hB]
    obtain ⟨a1, a2, a3, a4, a5, a6, a7, a8⟩ := hv
    obtain ⟨c1, c2, c3, c4, c5, c6, c7, c8⟩ := hu
    match i, hi with
    | 0, _ => simp only [H8.list, List.getD_cons_zero]; exact ⟨a1, c1, trivial⟩
    | 1, _ => simp only [H8.list, List.getD_cons_zero, List.getD_cons_succ]; exact ⟨a2, c2, trivial⟩
    | 2, _ => simp only [H8.list, List.getD_cons_zero, List.getD_cons_succ]; exact ⟨a3, c3, trivial⟩
    | 3, _ => simp only [H8.list, List.getD_cons_zero, List.getD_cons_succ]; exact ⟨a4, c4, trivial⟩
    | 4, _ => simp only [H8.list, List.getD_cons_zero, List.getD_cons_succ]; exact ⟨a5, c5, trivial⟩
    | 5, _ => simp only [H8.list, List.getD_cons_zero, List.getD_cons_succ]; exact ⟨a6, c6, trivial⟩
    | 6, _ => simp only [H8.list, List.getD_cons_zero, List.getD_cons_succ]; exact ⟨a7, c7, trivial⟩
    | 7, _ => simp only [H8.list, List.getD_cons_zero, List.getD_cons_succ]; exact ⟨a8, c8, trivial⟩
    | n + 8, h => omega
  have hBl : (shB v b).list.length = 8 := rfl
  have h2 := iter_count (f := fun x => F.ref02_block.l3 (zs v.list) (zs u.list) x.1 x.2) (fun i => (zs ((shB v b).list.take i), (i : Int))) (n := 8) (r := zs (shB v b).list)
    (fun i hi => by
      dsimp only
      unfold F.ref02_block.l3
      obtain ⟨q1, q2, q3⟩ := hgB i hi
      have hx : (shB v b).list[i]? = some ((shB v b).list.getD i 0) := by simp [List.getD, hBl, hi]
      have p1 : at_ (zs v.list) (i : Int) = some ((v.list.getD i 0 : Nat) : Int) := at_pos (by omega) (by rw [Int.toNat_natCast, zs_get (by rw [hl]; omega)])
      have p2 : at_ (zs u.list) (i : Int) = some ((u.list.getD i 0 : Nat) : Int) := at_pos (by omega) (by rw [Int.toNat_natCast, zs_get (by rw [show u.list.length = 8 from rfl]; omega)])
      have e4 : IntKind.i64.wrap ((i : Int) + 1) = ((i + 1 : Nat) : Int) := by rw [w64 (by omega) (by omega)]; omega
      have e5 : (IntKind.i64.wrap (((v.list.getD i 0 : Nat) : Int) + ((u.list.getD i 0 : Nat) : Int))).tmod 4294967296 = (((shB v b).list.getD i 0 : Nat) : Int) := by
        rw [w64 (by omega) (by omega), ← Int.natCast_add, q3]; rfl
      rw [if_pos (by simp; omega), p1, Option.bind_some, p2, Option.bind_some, e5, e4, chk_pos (by rw [zs_length, List.length_take, hBl]; simp only [room, List.length_cons, List.length_nil]; omega), List.take_add_one, hx, zs_app]
      rfl) (by dsimp only; unfold F.ref02_block.l3; rw [if_neg (by decide), List.take_of_length_le (by rw [hBl]; omega)]) (k := FUEL) (by rw [FUEL_eq]; omega)
  refine (congrArg (fun o => Option.bind o _) h2).trans ?_
  rfl

/-! ### the text padded -/
def nums (l : List UInt8) : List Nat := l.map fun b => b.toNat
theorem sbytes_nums (l : List UInt8) : sbytes (ofL l) = zs (nums l) := by rw [sbytes_ofL]; simp [zs, nums]
theorem u8s_nums (l : List UInt8) : u8s (nums l) = l := by
  unfold u8s nums
  rw [List.map_map]
  conv => rhs; rw [← List.map_id l]
  exact List.map_congr_left fun b _ => by simp
theorem nums_length (l : List UInt8) : (nums l).length = l.length := by simp [nums]
def shPad (l : List UInt8) : List UInt8 := l ++ u8s (shTail (l.length % 64) (l.length % 18446744073709551616))
theorem shPad_length (l : List UInt8) : (shPad l).length = l.length + (9 + padz (l.length % 64)) := by simp [shPad, u8s, shTail]; omega
theorem shPad_div (l : List UInt8) : (shPad l).length % 64 = 0 := by rw [shPad_length]; unfold padz; omega

theorem rpad_eq {l : List UInt8} (hl : l.length ≤ 1000000) : F.ref02_pad (ofL l) = some (ofL (shPad l)) := by
  unfold F.ref02_pad
  have hz : padz (l.length % 64) < 64 := Nat.mod_lt _ (by decide)
  rw [chk_pos (by rw [ofL_size]; unfold maxLen; omega), sbytes_nums, chk_pos (by rw [zs_length, nums_length]; simp only [room, List.length_cons, List.length_nil]; omega)]
  have h1 := iter_count (f := fun x => F.ref02_pad.l1 x) (fun i => zs (nums l ++ (128 :: List.replicate i 0))) (n := padz (l.length % 64)) (r := zs (nums l ++ (128 :: List.replicate (padz (l.length % 64)) 0)))
    (fun i hi => by
      unfold F.ref02_pad.l1
      rw [zs_length, List.length_append, nums_length, List.length_cons, List.length_replicate]
      have hne : (((l.length + (i + 1) : Nat) : Int).tmod 64 != 56) = true := by
        have : ((l.length + (i + 1) : Nat) : Int).tmod 64 = (((l.length + (i + 1)) % 64 : Nat) : Int) := rfl
        rw [this]
        unfold padz at hi
        simp; omega
      rw [if_pos hne, chk_pos (by simp only [room, List.length_cons, List.length_nil]; omega), List.replicate_succ', ← List.cons_append, ← List.append_assoc, zs_app (nums l ++ _)]
      rfl)
    (by
      unfold F.ref02_pad.l1
      rw [zs_length, List.length_append, nums_length, List.length_cons, List.length_replicate]
      have hne : ¬ (((l.length + (padz (l.length % 64) + 1) : Nat) : Int).tmod 64 != 56) = true := by
        have : ((l.length + (padz (l.length % 64) + 1) : Nat) : Int).tmod 64 = (((l.length + (padz (l.length % 64) + 1)) % 64 : Nat) : Int) := rfl
        rw [this]
        unfold padz
        simp; omega
      rw [if_neg hne]) (k := FUEL) (by rw [FUEL_eq]; omega)
  have h0 : zs (nums l ++ (128 :: List.replicate 0 0)) = zs (nums l) ++ ([128] : List Int) := by rw [zs_app]; rfl
  rw [h0] at h1
  refine (congrArg (fun o => Option.bind o _) h1).trans ?_
  rw [Option.bind_some]
  unfold F.ref02_pad.r2
  generalize hA : nums l ++ (128 :: List.replicate (padz (l.length % 64)) 0) = A
  have hAl : A.length ≤ 2000000 := by rw [← hA, List.length_append, nums_length, List.length_cons, List.length_replicate]; omega
  have h2 := iter_count (f := fun x => F.ref02_pad.l3 (ofL l) x.1 x.2) (fun i => (zs (A ++ (List.range i).map (tail8 (l.length % 18446744073709551616))), (7 : Int) - (i : Int))) (n := 8) (r := zs (A ++ (List.range 8).map (tail8 (l.length % 18446744073709551616))))
    (fun i hi => by
      dsimp only
      unfold F.ref02_pad.l3
      have e1 : IntKind.i64.wrap (8 * (7 - (i : Int))) = ((56 - 8 * i : Nat) : Int) := by rw [w64 (by omega) (by omega)]; omega
      have e2 : IntKind.i64.wrap (8 * (l.length : Int)) = ((l.length % 18446744073709551616 * 8 % 18446744073709551616 : Nat) : Int) := by rw [w64 (by omega) (by omega)]; omega
      have e3 : IntKind.i64.wrap (7 - (i : Int) - 1) = 7 - ((i + 1 : Nat) : Int) := by rw [w64 (by omega) (by omega)]; omega
      rw [if_pos (by simp; omega), e1, ofL_size, e2, e3, chk_pos (by omega), Int.toNat_natCast, Nat.min_eq_left (by omega), fdiv_pow, u8_nat, chk_pos (by rw [zs_length]; simp only [room, List.length_cons, List.length_nil, List.length_append, List.length_map, List.length_range]; omega),
        List.range_succ, List.map_append, ← List.append_assoc, zs_app (A ++ _)]
      rfl) (by dsimp only; unfold F.ref02_pad.l3; rw [if_neg (by decide)]) (k := FUEL) (by rw [FUEL_eq]; omega)
  simp only [List.range_zero, List.map_nil, List.append_nil] at h2
  refine (congrArg (fun o => Option.bind o _) h2).trans ?_
  rw [Option.bind_some]
  unfold F.ref02_pad.r4
  rw [bstr_zs, ← hA]
  have : nums l ++ 128 :: List.replicate (padz (l.length % 64)) 0 ++ (List.range 8).map (tail8 (l.length % 18446744073709551616)) = nums l ++ shTail (l.length % 64) (l.length % 18446744073709551616) := by
    rw [List.append_assoc]; rfl
  rw [this]
  have h3 : u8s (nums l ++ shTail (l.length % 64) (l.length % 18446744073709551616)) = shPad l := by
    unfold shPad
    rw [u8s, List.map_append, ← u8s, ← u8s, u8s_nums]
  rw [h3]

theorem rsum_eq {l : List UInt8} (hl : l.length ≤ 1000000) : F.ref02_Sum (ofL l) = some (ofL (digest l)) := by
  unfold F.ref02_Sum
  rw [primes_eq, Option.bind_some]
  have hPl : PR.length = 64 := rfl
  have h1 := iter_count (f := fun x => F.ref02_Sum.l1 (zs PR) x.1 x.2.1 x.2.2) (fun i => (zs (shH.list.take i), zs (shK.take i), (i : Int))) (n := 64) (r := (zs shH.list, zs shK))
    (fun i hi => by
      dsimp only
      unfold F.ref02_Sum.l1
      have e4 : IntKind.i64.wrap ((i : Int) + 1) = ((i + 1 : Nat) : Int) := by rw [w64 (by omega) (by omega)]; omega
      have p1 : at_ (zs PR) (i : Int) = some ((PR.getD i 0 : Nat) : Int) := at_pos (by omega) (by rw [Int.toNat_natCast, zs_get (by rw [hPl]; omega)])
      have hp := PR_lt ⟨i, hi⟩
      have r3 := root3 hp
      have k3 := roots3 ⟨i, hi⟩
      dsimp only at hp r3 k3
      rw [k3] at r3
      have hKl : shK.length = 64 := rfl
      have hHl : shH.list.length = 8 := rfl
      have hk : shK[i]? = some (shK.getD i 0) := by simp [List.getD, hKl, hi]
      rw [if_pos (by rw [zs_length, hPl]; simp; omega)]
      by_cases h8 : i < 8
      · have r2 := root2 hp
        have k2 := roots2 ⟨i, h8⟩
        dsimp only at k2
        rw [k2] at r2
        have hh : shH.list[i]? = some (shH.list.getD i 0) := by simp [List.getD, hHl, h8]
        rw [if_pos (by simp; omega), p1, Option.bind_some, r2, Option.bind_some, chk_pos (by rw [zs_length, List.length_take, hHl]; simp only [room, List.length_cons, List.length_nil]; omega), Option.bind_some, r3, Option.bind_some,
          chk_pos (by rw [zs_length, List.length_take, hKl]; simp only [room, List.length_cons, List.length_nil]; omega), e4, List.take_add_one, List.take_add_one, hh, hk, zs_app, zs_app]
        rfl
      · rw [if_neg (by simp; omega), p1, Option.bind_some, r3, Option.bind_some, chk_pos (by rw [zs_length, List.length_take, hKl]; simp only [room, List.length_cons, List.length_nil]; omega), e4, List.take_of_length_le (l := shH.list) (by rw [hHl]; omega), List.take_of_length_le (l := shH.list) (by rw [hHl]; omega),
          List.take_add_one, hk, zs_app]
        rfl)
    (by dsimp only; unfold F.ref02_Sum.l1; rw [if_neg (by rw [zs_length, hPl]; decide)]; rfl) (k := FUEL) (by rw [FUEL_eq]; omega)
  refine (congrArg (fun o => Option.bind o _) h1).trans ?_
  rw [Option.bind_some]
  dsimp only
  unfold F.ref02_Sum.r2
  rw [rpad_eq hl, Option.bind_some]
  have hpd := shPad_div l
  have hpl := shPad_length l
  have hz : padz (l.length % 64) < 64 := Nat.mod_lt _ (by decide)
  have h2 := iter_count (f := fun x => F.ref02_Sum.l3 (zs shK) (ofL (shPad l)) x.1 x.2) (fun i => (zs (shRun i shH (shPad l)).list, (i : Int))) (n := (shPad l).length / 64) (r := zs (shAll (shPad l)).list)
    (fun i hi => by
      dsimp only
      unfold F.ref02_Sum.l3
      have e1 : IntKind.i64.wrap (64 * (i : Int)) = ((64 * i : Nat) : Int) := by rw [w64 (by omega) (by omega)]; omega
      have e2 : IntKind.i64.wrap (((64 * i : Nat) : Int) + 64) = ((64 * i + 64 : Nat) : Int) := by rw [w64 (by omega) (by omega)]; omega
      have e4 : IntKind.i64.wrap ((i : Int) + 1) = ((i + 1 : Nat) : Int) := by rw [w64 (by omega) (by omega)]; omega
      have e5 : ((shPad l).take (64 * i + 64)).drop (64 * i) = ((shPad l).drop (64 * i)).take 64 := by rw [List.drop_take]; congr 1; omega
      rw [e1, e2, e4, ofL_size, if_pos (by simp; omega), chk_pos (by omega), ofL_extract, Int.toNat_natCast, Int.toNat_natCast, e5, rblock_eq (by rw [List.length_take, List.length_drop]; omega) (shRun_ok _ _ _ shH_ok), Option.bind_some, ← shRun_next])
    (by
      dsimp only
      unfold F.ref02_Sum.l3
      have e1 : IntKind.i64.wrap (64 * (((shPad l).length / 64 : Nat) : Int)) = ((shPad l).length : Int) := by rw [w64 (by omega) (by omega)]; omega
      rw [e1, ofL_size, if_neg (by simp)]
      rfl) (k := FUEL) (by rw [FUEL_eq]; omega)
  refine (congrArg (fun o => Option.bind o _) h2).trans ?_
  rw [Option.bind_some]
  unfold F.ref02_Sum.r4
  have hok : (shAll (shPad l)).ok := shRun_ok _ _ _ shH_ok
  have hd : digest l = u8s ((shAll (shPad l)).list.flatMap four) := rfl
  rw [hd]
  generalize shAll (shPad l) = v
  have hll : v.list.length = 8 := rfl
  have hfl : ∀ l : List Nat, (l.flatMap four).length = 4 * l.length := by
    intro l
    induction l with
    | nil => rfl
    | cons a l ih => rw [List.flatMap_cons, List.length_append, ih, List.length_cons]; simp [four]; omega
  have h3 := iter_count (f := fun x => F.ref02_Sum.l5 (zs v.list) x.1 x.2) (fun i => (zs ((v.list.take i).flatMap four), (i : Int))) (n := 8) (r := zs (v.list.flatMap four))
    (fun i hi => by
      dsimp only
      unfold F.ref02_Sum.l5
      have e4 : IntKind.i64.wrap ((i : Int) + 1) = ((i + 1 : Nat) : Int) := by rw [w64 (by omega) (by omega)]; omega
      have hg : at_ (zs v.list) (i : Int) = some ((v.list.getD i 0 : Nat) : Int) := at_pos (by omega) (by rw [Int.toNat_natCast, zs_get (by omega)])
      have hx : v.list[i]? = some (v.list.getD i 0) := by simp [List.getD, hll, hi]
      rw [if_pos (by simp; omega)]
      simp only [hg, Option.bind_some, e4]
      generalize v.list.getD i 0 = x at hx
      have f1 : ((x : Nat) : Int).fdiv (2 ^ 24) = ((x / 2 ^ 24 : Nat) : Int) := fdiv_pow x 24
      have f2 : ((x : Nat) : Int).fdiv (2 ^ 16) = ((x / 2 ^ 16 : Nat) : Int) := fdiv_pow x 16
      have f3 : ((x : Nat) : Int).fdiv (2 ^ 8) = ((x / 2 ^ 8 : Nat) : Int) := fdiv_pow x 8
      rw [f1, f2, f3, u8_nat, u8_nat, u8_nat, u8_nat, chk_pos (by rw [zs_length, hfl, List.length_take]; simp only [room, List.length_cons, List.length_nil]; omega), List.take_add_one, hx, List.flatMap_append, zs_app]
      simp [four, zs])
    (by dsimp only; unfold F.ref02_Sum.l5; rw [if_neg (by decide)]; rfl) (k := FUEL) (by rw [FUEL_eq]; omega)
  refine (congrArg (fun o => Option.bind o _) h3).trans ?_
  rw [Option.bind_some]
  unfold F.ref02_Sum.r6
  rw [bstr_zs]
end Go.Proofs.Ytadhamgijkbgeaa
