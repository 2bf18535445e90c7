/- What the program's sums are: sha256 in plain numbers (FwN). -/
import Derived.Test.YtileogoeoiafkaaGSha
import Derived.Test.YtileogoeoiafkaaFwN
namespace Go.Proofs.Ytileogoeoiafkaa
set_option linter.all false
open Go Go.RowKit Go.Fw
set_option maxRecDepth 100000
attribute [local irreducible] FUEL

def zs (l : List Nat) : List Int := l.map fun (n : Nat) => (n : Int)
theorem zs_length (l : List Nat) : (zs l).length = l.length := by simp [zs]
theorem zs_get {l : List Nat} {i : Nat} (h : i < l.length) : (zs l)[i]? = some ((l.getD i 0 : Nat) : Int) := by
  simp [zs, h]
theorem zs_app (a b : List Nat) : zs (a ++ b) = zs a ++ zs b := by simp [zs]
theorem set_next {α : Type} (A : List α) (z v : α) (m : Nat) : (A ++ List.replicate (m + 1) z).set A.length v = (A ++ [v]) ++ List.replicate m z := by
  rw [List.set_append, if_neg (by omega), Nat.sub_self, List.replicate_succ]
  simp
theorem u32_as (n : Int) : IntKind.u32.wrap n = n % 4294967296 := by
  simp [IntKind.wrap, IntKind.bits, IntKind.signed]

theorem turn_count : ∀ k : Fin 32, 0 < k.val → iand .u64 (IntKind.u64.wrap (IntKind.i64.wrap (0 - (k.val : Int)))) 31 = ((32 - k.val : Nat) : Int) := by decide +kernel
theorem turn_eq {x : Nat} (hx : x < 4294967296) (k : Nat) {K : Int} (hK : K = (k : Int)) (h0 : 0 < k) (h1 : k < 32) : F.sha_turn (x : Int) K = some ((rot k x : Nat) : Int) := by
  subst hK
  unfold F.sha_turn F.math_bits_RotateLeft32
  have hc := turn_count ⟨k, h1⟩ h0
  dsimp only at hc
  rw [hc]
  have e1 : IntKind.u64.wrap (32 - ((32 - k : Nat) : Int)) = (k : Int) := by rw [wu64 (by omega) (by omega)]; omega
  rw [e1, chk_pos (by omega), chk_pos (by omega), Int.toNat_natCast, Int.toNat_natCast, Nat.min_eq_left (by omega), Nat.min_eq_left (by omega), mul_pow, fdiv_pow, u32_nat, ior32 (Nat.mod_lt _ (by decide)) (div_lt32 _ hx)]
  rfl

section
variable {b : List UInt8}
theorem bt_byt (b : List UInt8) (i : Nat) {j : Int} (hj : j = (i : Int)) : bt (ofL b) j = ((byt b i : Nat) : Int) := by
  subst hj; rw [bt_ofL]; rfl
theorem words1 (hb : b.length = 64) {i : Nat} (hi : i < 16) :
    F.sha_words.l1 (ofL b) (i : Int) (zs (wL b i) ++ List.replicate (64 - i) 0) = some (.inl (((i + 1 : Nat) : Int), zs (wL b (i + 1)) ++ List.replicate (64 - (i + 1)) 0)) := by
  unfold F.sha_words.l1
  have e0 : IntKind.i64.wrap (4 * (i : Int)) = ((4 * i : Nat) : Int) := by rw [w64 (by omega) (by omega)]; omega
  have e1 : IntKind.i64.wrap (((4 * i : Nat) : Int) + 1) = ((4 * i + 1 : Nat) : Int) := by rw [w64 (by omega) (by omega)]; omega
  have e2 : IntKind.i64.wrap (((4 * i : Nat) : Int) + 2) = ((4 * i + 2 : Nat) : Int) := by rw [w64 (by omega) (by omega)]; omega
  have e3 : IntKind.i64.wrap (((4 * i : Nat) : Int) + 3) = ((4 * i + 3 : Nat) : Int) := by rw [w64 (by omega) (by omega)]; omega
  have e4 : IntKind.i64.wrap ((i : Int) + 1) = ((i + 1 : Nat) : Int) := by rw [w64 (by omega) (by omega)]; omega
  rw [if_pos (by simp; omega), e0, e1, e2, e3, e4, ofL_size, chk_pos (by omega), chk_pos (by omega), chk_pos (by omega), chk_pos (by omega),
    bt_byt b (4 * i) rfl, bt_byt b (4 * i + 1) rfl, bt_byt b (4 * i + 2) rfl, bt_byt b (4 * i + 3) rfl]
  have hget : at_ (zs (wL b i) ++ List.replicate (64 - i) (0 : Int)) (i : Int) = some 0 := by
    refine at_pos (by omega) ?_
    rw [Int.toNat_natCast, List.getElem?_append_right (by rw [zs_length, wL_length]; omega), zs_length, wL_length, Nat.sub_self]
    rw [List.getElem?_replicate, if_pos (by omega)]
  rw [hget, Option.bind_some]
  have h := byt_lt b
  have h0 := h (4 * i); have h1 := h (4 * i + 1); have h2 := h (4 * i + 2); have h3 := h (4 * i + 3)
  have g0 : IntKind.u32.wrap (((byt b (4 * i) : Nat) : Int)) * 2 ^ 24 = ((byt b (4 * i) * 2 ^ 24 : Nat) : Int) := by rw [wu32 (by omega) (by omega), ← mul_pow]
  have g1 : IntKind.u32.wrap (((byt b (4 * i + 1) : Nat) : Int)) * 2 ^ 16 = ((byt b (4 * i + 1) * 2 ^ 16 : Nat) : Int) := by rw [wu32 (by omega) (by omega), ← mul_pow]
  have g2 : IntKind.u32.wrap (((byt b (4 * i + 2) : Nat) : Int)) * 2 ^ 8 = ((byt b (4 * i + 2) * 2 ^ 8 : Nat) : Int) := by rw [wu32 (by omega) (by omega), ← mul_pow]
  rw [g0, g1, g2, wu32 (n := ((byt b (4 * i) * 2 ^ 24 : Nat) : Int)) (by omega) (by omega), wu32 (n := ((byt b (4 * i + 1) * 2 ^ 16 : Nat) : Int)) (by omega) (by omega), wu32 (n := ((byt b (4 * i + 2) * 2 ^ 8 : Nat) : Int)) (by omega) (by omega), wu32 (n := ((byt b (4 * i + 3) : Nat) : Int)) (by omega) (by omega)]
  rw [ior32 (by omega) (by omega), ior32 (or32 (by omega) (by omega)) (by omega), ior32 (or32 (or32 (by omega) (by omega)) (by omega)) (by omega)]
  have hw : wL b (i + 1) = wL b i ++ [w4 b i] := by rw [wL, if_pos hi]
  rw [hw, zs_app]
  have hs := set_next (zs (wL b i)) 0 ((w4 b i : Nat) : Int) (63 - i)
  rw [zs_length, wL_length, show 63 - i + 1 = 64 - i by omega] at hs
  rw [Int.toNat_natCast, show 64 - (i + 1) = 63 - i by omega]
  exact congrArg (fun z => (some (Sum.inl (((i + 1 : Nat) : Int), z)) : Option ((Int × List Int) ⊕ List Int))) hs

theorem wnext_eq {x1 x2 x3 x4 : Nat} (h1 : x1 < 4294967296) (h2 : x2 < 4294967296) :
    IntKind.u32.wrap (IntKind.u32.wrap (IntKind.u32.wrap ((x3 : Int) + ixor .u32 (ixor .u32 ((rot 7 x1 : Nat) : Int) ((rot 18 x1 : Nat) : Int)) (((x1 : Nat) : Int).fdiv (2 ^ 3))) + (x4 : Int)) + ixor .u32 (ixor .u32 ((rot 17 x2 : Nat) : Int) ((rot 19 x2 : Nat) : Int)) (((x2 : Nat) : Int).fdiv (2 ^ 10)))
      = (((x3 + sgA x1 + x4 + sgB x2) % 4294967296 : Nat) : Int) := by
  have f1 : (((x1 : Nat) : Int).fdiv (2 ^ 3)) = ((x1 / 2 ^ 3 : Nat) : Int) := fdiv_pow x1 3
  have f2 : (((x2 : Nat) : Int).fdiv (2 ^ 10)) = ((x2 / 2 ^ 10 : Nat) : Int) := fdiv_pow x2 10
  rw [f1, f2, ixor32 (rot_lt h1) (rot_lt h1), ixor32 (xor32 (rot_lt h1) (rot_lt h1)) (div_lt32 _ h1), ixor32 (rot_lt h2) (rot_lt h2), ixor32 (xor32 (rot_lt h2) (rot_lt h2)) (div_lt32 _ h2)]
  show IntKind.u32.wrap (IntKind.u32.wrap (IntKind.u32.wrap ((x3 : Int) + ((sgA x1 : Nat) : Int)) + (x4 : Int)) + ((sgB x2 : Nat) : Int)) = _
  generalize sgA x1 = y1
  generalize sgB x2 = y2
  simp only [u32_as]
  omega

theorem words3 (i : Nat) (h16 : 16 ≤ i) (hi : i < 64) :
    F.sha_words.l3 (i : Int) (zs (wL b i) ++ List.replicate (64 - i) 0) = some (.inl (((i + 1 : Nat) : Int), zs (wL b (i + 1)) ++ List.replicate (64 - (i + 1)) 0)) := by
  unfold F.sha_words.l3
  have e (d : Nat) (hd : d ≤ 16) {D : Int} (hD : D = (d : Int)) : IntKind.i64.wrap ((i : Int) - D) = ((i - d : Nat) : Int) := by subst hD; rw [w64 (by omega) (by omega)]; omega
  have e4 : IntKind.i64.wrap ((i : Int) + 1) = ((i + 1 : Nat) : Int) := by rw [w64 (by omega) (by omega)]; omega
  have hget (d : Nat) (h0 : 0 < d) (hd : d ≤ 16) : at_ (zs (wL b i) ++ List.replicate (64 - i) (0 : Int)) ((i - d : Nat) : Int) = some (((wL b i).getD (i - d) 0 : Nat) : Int) := by
    refine at_pos (by omega) ?_
    rw [Int.toNat_natCast, List.getElem?_append_left (by rw [zs_length, wL_length]; omega), zs_get (by rw [wL_length]; omega)]
  have hget0 : at_ (zs (wL b i) ++ List.replicate (64 - i) (0 : Int)) (i : Int) = some 0 := by
    refine at_pos (by omega) ?_
    rw [Int.toNat_natCast, List.getElem?_append_right (by rw [zs_length, wL_length]; omega), zs_length, wL_length, Nat.sub_self]
    rw [List.getElem?_replicate, if_pos (by omega)]
  have l1 := getD_lt (wL_lt b i) (i - 15)
  have l2 := getD_lt (wL_lt b i) (i - 2)
  rw [if_pos (by simp; omega), e 15 (by omega) (D := 15) rfl, e 2 (by omega) (D := 2) rfl, e 16 (by omega) (D := 16) rfl, e 7 (by omega) (D := 7) rfl, e4, hget 15 (by omega) (by omega), Option.bind_some, hget 2 (by omega) (by omega), Option.bind_some, hget 16 (by omega) (by omega), Option.bind_some,
    hget 7 (by omega) (by omega), Option.bind_some, turn_eq l1 7 (K := 7) rfl (by decide) (by decide), Option.bind_some, turn_eq l1 18 (K := 18) rfl (by decide) (by decide), Option.bind_some, turn_eq l2 17 (K := 17) rfl (by decide) (by decide), Option.bind_some, turn_eq l2 19 (K := 19) rfl (by decide) (by decide), Option.bind_some, hget0, Option.bind_some, wnext_eq l1 l2]
  have hw : wL b (i + 1) = wL b i ++ [wN (wL b i) i] := by rw [wL, if_neg (by omega)]
  rw [hw, zs_app]
  have hs := set_next (zs (wL b i)) 0 ((wN (wL b i) i : Nat) : Int) (63 - i)
  rw [zs_length, wL_length, show 63 - i + 1 = 64 - i by omega] at hs
  rw [Int.toNat_natCast, show 64 - (i + 1) = 63 - i by omega]
  exact congrArg (fun z => (some (Sum.inl (((i + 1 : Nat) : Int), z)) : Option ((Int × List Int) ⊕ List Int))) hs

theorem words_eq (hb : b.length = 64) : F.sha_words (ofL b) = some (zs (wL b 64)) := by
  unfold F.sha_words
  have h1 := iter_count (f := fun x => F.sha_words.l1 (ofL b) x.1 x.2) (fun i => ((i : Int), zs (wL b i) ++ List.replicate (64 - i) 0)) (n := 16) (r := zs (wL b 16) ++ List.replicate 48 0)
    (fun i hi => by dsimp only; exact words1 hb hi) (by dsimp only; unfold F.sha_words.l1; rw [if_neg (by decide)]) (k := FUEL) (by rw [FUEL_eq]; omega)
  have h1' : iter (fun x => F.sha_words.l1 (ofL b) x.1 x.2) FUEL (0, (List.replicate 64 0 : List Int)) = some (zs (wL b 16) ++ List.replicate 48 0) := h1
  have h2 := iter_count (f := fun x => F.sha_words.l3 x.1 x.2) (fun i => (((16 + i : Nat) : Int), zs (wL b (16 + i)) ++ List.replicate (64 - (16 + i)) 0)) (n := 48) (r := zs (wL b 64))
    (fun i hi => by dsimp only; exact words3 (16 + i) (by omega) (by omega)) (by dsimp only; unfold F.sha_words.l3; rw [if_neg (by decide)]; simp) (k := FUEL) (by rw [FUEL_eq]; omega)
  have h2' : iter (fun x => F.sha_words.l3 x.1 x.2) FUEL (16, zs (wL b 16) ++ List.replicate 48 0) = some (zs (wL b 64)) := h2
  rw [h1', Option.bind_some]
  unfold F.sha_words.r2
  rw [h2', Option.bind_some]
  rfl
end

def mkS (v : H8) (rest : ByteArray) (n : Int) (on : Bool) : sha_State := ⟨⟨v.a, v.b, v.c, v.d, v.e, v.f, v.g, v.h⟩, rest, n, on⟩
theorem shK_lt (i : Nat) : shK.getD i 0 < 4294967296 := getD_lt (by decide) i
theorem round_eq {w : List Nat} (hw : w.length = 64) {i : Nat} (hi : i < 64) {v : H8} (hv : v.ok) :
    F.sha_State_mix.l1 (zs w) (zs shK) (i : Int) v.a v.b v.c v.d v.e v.f v.g v.h = some (.inl (((i + 1 : Nat) : Int), (((shR w i v).a : Nat) : Int), (((shR w i v).b : Nat) : Int), (((shR w i v).c : Nat) : Int), (((shR w i v).d : Nat) : Int), (((shR w i v).e : Nat) : Int), (((shR w i v).f : Nat) : Int), (((shR w i v).g : Nat) : Int), (((shR w i v).h : Nat) : Int))) := by
  obtain ⟨ha, hb, hc, hd, he, hf, hg, hh⟩ := hv
  unfold F.sha_State_mix.l1
  have e4 : IntKind.i64.wrap ((i : Int) + 1) = ((i + 1 : Nat) : Int) := by rw [w64 (by omega) (by omega)]; omega
  have hgk : at_ (zs shK) (i : Int) = some ((shK.getD i 0 : Nat) : Int) := at_pos (by omega) (by rw [Int.toNat_natCast, zs_get (by rw [show shK.length = 64 from rfl]; omega)])
  have hgw : at_ (zs w) (i : Int) = some ((w.getD i 0 : Nat) : Int) := at_pos (by omega) (by rw [Int.toNat_natCast, zs_get (by omega)])
  have hx : ixor .u32 4294967295 (v.e : Int) = ((4294967295 ^^^ v.e : Nat) : Int) := ixor32 (a := 4294967295) (by decide) he
  rw [if_pos (by simp; omega), hgk, Option.bind_some, hgw, Option.bind_some, turn_eq he 6 (K := 6) rfl (by decide) (by decide), Option.bind_some, turn_eq he 11 (K := 11) rfl (by decide) (by decide), Option.bind_some, turn_eq he 25 (K := 25) rfl (by decide) (by decide), Option.bind_some,
    turn_eq ha 2 (K := 2) rfl (by decide) (by decide), Option.bind_some, turn_eq ha 13 (K := 13) rfl (by decide) (by decide), Option.bind_some, turn_eq ha 22 (K := 22) rfl (by decide) (by decide), Option.bind_some, e4, hx,
    iand32 he hf, iand32 (xor32 (by decide) he) hg, ixor32 (and32 hf) (and32 hg), ixor32 (rot_lt he) (rot_lt he), ixor32 (xor32 (rot_lt he) (rot_lt he)) (rot_lt he), ixor32 (rot_lt ha) (rot_lt ha), ixor32 (xor32 (rot_lt ha) (rot_lt ha)) (rot_lt ha),
    iand32 ha hb, iand32 ha hc, iand32 hb hc, ixor32 (and32 hb) (and32 hc), ixor32 (xor32 (and32 hb) (and32 hc)) (and32 hc)]
  have e1 : IntKind.u32.wrap (IntKind.u32.wrap (IntKind.u32.wrap (IntKind.u32.wrap ((v.h : Int) + ((sgE v.e : Nat) : Int)) + ((shCh v.e v.f v.g : Nat) : Int)) + ((shK.getD i 0 : Nat) : Int)) + ((w.getD i 0 : Nat) : Int)) = (((v.h + sgE v.e + shCh v.e v.f v.g + shK.getD i 0 + w.getD i 0) % 4294967296 : Nat) : Int) := by
    simp only [u32_as]; omega
  have e1' := e1
  unfold sgE shCh at e1
  rw [e1]
  have e2 : IntKind.u32.wrap ((((v.h + sgE v.e + shCh v.e v.f v.g + shK.getD i 0 + w.getD i 0) % 4294967296 : Nat) : Int) + IntKind.u32.wrap (((sgF v.a : Nat) : Int) + ((shMaj v.a v.b v.c : Nat) : Int))) = (((shR w i v).a : Nat) : Int) := by
    unfold shR; simp only [u32_as]; omega
  have e3 : IntKind.u32.wrap ((v.d : Int) + (((v.h + sgE v.e + shCh v.e v.f v.g + shK.getD i 0 + w.getD i 0) % 4294967296 : Nat) : Int)) = (((shR w i v).e : Nat) : Int) := by
    unfold shR; simp only [u32_as]; omega
  have h3 : ∀ {x x' y y' : Int}, x = x' → y = y' → (some (Sum.inl (((i + 1 : Nat) : Int), x, (v.a : Int), (v.b : Int), (v.c : Int), y, (v.e : Int), (v.f : Int), (v.g : Int))) : Option ((Int × Int × Int × Int × Int × Int × Int × Int × Int) ⊕ (Int × Int × Int × Int × Int × Int × Int × Int))) = (some (Sum.inl (((i + 1 : Nat) : Int), x', (v.a : Int), (v.b : Int), (v.c : Int), y', (v.e : Int), (v.f : Int), (v.g : Int))) : Option ((Int × Int × Int × Int × Int × Int × Int × Int × Int) ⊕ (Int × Int × Int × Int × Int × Int × Int × Int))) := by rintro _ _ _ _ rfl rfl; rfl
  exact h3 e2 e3

theorem mix_eq {b : List UInt8} (hb : b.length = 64) {v : H8} (hv : v.ok) (rest : ByteArray) (n : Int) (on : Bool) : F.sha_State_mix (ofL b) (mkS v rest n on) = some (mkS (shB v b) rest n on) := by
  unfold F.sha_State_mix
  have hr : F.sha_rounds = some (zs shK) := rfl
  rw [words_eq hb, Option.bind_some, hr, Option.bind_some]
  have h1 := iter_count (f := fun x => F.sha_State_mix.l1 (zs (wL b 64)) (zs shK) x.1 x.2.1 x.2.2.1 x.2.2.2.1 x.2.2.2.2.1 x.2.2.2.2.2.1 x.2.2.2.2.2.2.1 x.2.2.2.2.2.2.2.1 x.2.2.2.2.2.2.2.2)
    (fun i => ((i : Int), (((shV (wL b 64) v i).a : Nat) : Int), (((shV (wL b 64) v i).b : Nat) : Int), (((shV (wL b 64) v i).c : Nat) : Int), (((shV (wL b 64) v i).d : Nat) : Int), (((shV (wL b 64) v i).e : Nat) : Int), (((shV (wL b 64) v i).f : Nat) : Int), (((shV (wL b 64) v i).g : Nat) : Int), (((shV (wL b 64) v i).h : Nat) : Int))) (n := 64)
    (r := ((((shV (wL b 64) v 64).a : Nat) : Int), (((shV (wL b 64) v 64).b : Nat) : Int), (((shV (wL b 64) v 64).c : Nat) : Int), (((shV (wL b 64) v 64).d : Nat) : Int), (((shV (wL b 64) v 64).e : Nat) : Int), (((shV (wL b 64) v 64).f : Nat) : Int), (((shV (wL b 64) v 64).g : Nat) : Int), (((shV (wL b 64) v 64).h : Nat) : Int)))
    (fun i hi => by dsimp only; exact round_eq (wL_length _ _) hi (shV_ok _ hv i)) (by dsimp only; unfold F.sha_State_mix.l1; rw [if_neg (by decide)]) (k := FUEL) (by rw [FUEL_eq]; omega)
  refine (congrArg (fun o => Option.bind o _) h1).trans ?_
  rw [Option.bind_some]
  unfold F.sha_State_mix.r2 mkS shB
  simp only [u32_as]
  rfl
end Go.Proofs.Ytileogoeoiafkaa
