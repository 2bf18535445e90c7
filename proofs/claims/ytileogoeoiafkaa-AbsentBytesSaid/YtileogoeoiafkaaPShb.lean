/- Writing and summing: the program's sums are sha256's. -/
import Derived.Test.YtileogoeoiafkaaPSha
namespace Go.Proofs.Ytileogoeoiafkaa
set_option linter.all false
open Go Go.RowKit Go.Fw
set_option maxRecDepth 100000
attribute [local irreducible] FUEL

theorem u64_as (n : Int) : IntKind.u64.wrap n = n % 18446744073709551616 := by
  simp [IntKind.wrap, IntKind.bits, IntKind.signed]
theorem u8_nat (n : Nat) : IntKind.u8.wrap (n : Int) = ((n % 256 : Nat) : Int) := by
  simp [IntKind.wrap, IntKind.bits, IntKind.signed]

/-- a state behind a text -/
def stT (T : List UInt8) : sha_State := mkS (shAll T) (ofL (shRest T)) ((T.length % 18446744073709551616 : Nat) : Int) true
theorem new_eq : F.sha_New = some (stT []) := rfl

theorem shRun_next (i : Nat) (v : H8) (D : List UInt8) : shRun (i + 1) v D = shB (shRun i v D) ((D.drop (64 * i)).take 64) := by
  rw [shRun_add i 1]; rfl

theorem wloop {D : List UInt8} {v : H8} (hv : v.ok) (rest : ByteArray) (n : Int) {i : Nat} (hi : i < D.length / 64) (hD : D.length ≤ 9223372036854775807) :
    F.sha_State_Write.l2 (ofL (D.drop (64 * i))) (shRun i v D).a (shRun i v D).b (shRun i v D).c (shRun i v D).d (shRun i v D).e (shRun i v D).f (shRun i v D).g (shRun i v D).h rest n true
      = some (.inl (ofL (D.drop (64 * (i + 1))), ((shRun (i + 1) v D).a : Int), ((shRun (i + 1) v D).b : Int), ((shRun (i + 1) v D).c : Int), ((shRun (i + 1) v D).d : Int), ((shRun (i + 1) v D).e : Int), ((shRun (i + 1) v D).f : Int), ((shRun (i + 1) v D).g : Int), ((shRun (i + 1) v D).h : Int), rest, n, true)) := by
  have hl : (D.drop (64 * i)).length = D.length - 64 * i := by simp
  unfold F.sha_State_Write.l2
  rw [if_pos (by rw [ofL_size, hl]; simp; omega), chk_pos (by rw [ofL_size, hl]; omega), ofL_extract, show (0 : Int).toNat = 0 from rfl, show (64 : Int).toNat = 64 from rfl, List.drop_zero]
  have hm := mix_eq (b := (D.drop (64 * i)).take 64) (by rw [List.length_take, hl]; omega) (shRun_ok i v D hv) rest n true
  unfold mkS at hm
  rw [hm, Option.bind_some, chk_pos (by rw [ofL_size, hl]; omega), ofL_extract, ofL_size, Int.toNat_natCast, List.take_length, List.drop_drop, ← shRun_next, show 64 * i + 64 = 64 * (i + 1) by omega]

theorem write_eq (T s : List UInt8) (hs : s.length ≤ 9223372036854775700) : F.sha_State_Write (ofL s) (stT T) = some (stT (T ++ s)) := by
  unfold F.sha_State_Write
  have hon : (stT T).on_ = true := rfl
  rw [hon]
  show F.sha_State_Write.r1 (ofL s) (stT T) = _
  unfold F.sha_State_Write.r1
  have hr : (stT T).rest_ = ofL (shRest T) := rfl
  have hn : (stT T).n_ = ((T.length % 18446744073709551616 : Nat) : Int) := rfl
  have hrl := shRest_length T
  rw [hr, hn, chk_pos (by rw [ofL_size, ofL_size]; omega), ofL_append, ofL_size]
  have hn2 : IntKind.u64.wrap (((T.length % 18446744073709551616 : Nat) : Int) + IntKind.u64.wrap (s.length : Int)) = (((T ++ s).length % 18446744073709551616 : Nat) : Int) := by
    rw [List.length_append]; simp only [u64_as]; omega
  rw [hn2]
  generalize hD : shRest T ++ s = D
  have hDl : D.length = T.length % 64 + s.length := by rw [← hD, List.length_append, hrl]
  generalize hN : (((T ++ s).length % 18446744073709551616 : Nat) : Int) = n
  have hv : (shAll T).ok := shRun_ok _ _ _ shH_ok
  have h1 := iter_count (f := fun x => F.sha_State_Write.l2 x.1 x.2.1 x.2.2.1 x.2.2.2.1 x.2.2.2.2.1 x.2.2.2.2.2.1 x.2.2.2.2.2.2.1 x.2.2.2.2.2.2.2.1 x.2.2.2.2.2.2.2.2.1 x.2.2.2.2.2.2.2.2.2.1 x.2.2.2.2.2.2.2.2.2.2.1 x.2.2.2.2.2.2.2.2.2.2.2)
    (fun i => (ofL (D.drop (64 * i)), ((shRun i (shAll T) D).a : Int), ((shRun i (shAll T) D).b : Int), ((shRun i (shAll T) D).c : Int), ((shRun i (shAll T) D).d : Int), ((shRun i (shAll T) D).e : Int), ((shRun i (shAll T) D).f : Int), ((shRun i (shAll T) D).g : Int), ((shRun i (shAll T) D).h : Int), ofL (shRest T), n, true))
    (n := D.length / 64)
    (r := (ofL (D.drop (64 * (D.length / 64))), ((shRun (D.length / 64) (shAll T) D).a : Int), ((shRun (D.length / 64) (shAll T) D).b : Int), ((shRun (D.length / 64) (shAll T) D).c : Int), ((shRun (D.length / 64) (shAll T) D).d : Int), ((shRun (D.length / 64) (shAll T) D).e : Int), ((shRun (D.length / 64) (shAll T) D).f : Int), ((shRun (D.length / 64) (shAll T) D).g : Int), ((shRun (D.length / 64) (shAll T) D).h : Int), ofL (shRest T), n, true))
    (fun i hi => by dsimp only; exact wloop hv _ _ hi (by omega))
    (by dsimp only; unfold F.sha_State_Write.l2; rw [if_neg (by rw [ofL_size]; simp; omega)]) (k := FUEL) (by rw [FUEL_eq]; omega)
  rw [Nat.mul_zero, List.drop_zero] at h1
  refine (congrArg (fun o => Option.bind o _) h1).trans ?_
  rw [Option.bind_some]
  unfold F.sha_State_Write.r3 stT mkS
  rw [shAll_app, shRest_app, hD, hN]

/-! ### the sum -/
theorem bstr_zs (l : List Nat) : bstr (zs l) = ofL (u8s l) := by
  rw [bstr_ofL, zs, List.map_map]
  rfl
theorem pad_step {T : List UInt8} {i : Nat} (hi : i < padz (T.length % 64)) : F.sha_State_Sum.l2 (stT T) (zs (128 :: List.replicate i 0)) = some (.inl (zs (128 :: List.replicate (i + 1) 0))) := by
  unfold F.sha_State_Sum.l2
  have hr : (stT T).rest_ = ofL (shRest T) := rfl
  have hz : padz (T.length % 64) < 64 := Nat.mod_lt _ (by decide)
  rw [hr, ofL_size, shRest_length, zs_length, List.length_cons, List.length_replicate, w64 (by omega) (by omega)]
  have hne : ((((T.length % 64 : Nat) : Int) + ((i + 1 : Nat) : Int)).tmod 64 != 56) = true := by
    have : (((T.length % 64 : Nat) : Int) + ((i + 1 : Nat) : Int)).tmod 64 = (((T.length % 64 + (i + 1)) % 64 : Nat) : Int) := rfl
    rw [this]
    unfold padz at hi
    simp; omega
  rw [if_pos hne, chk_pos (by simp [room]; omega)]
  have : zs (128 :: List.replicate (i + 1) 0) = zs (128 :: List.replicate i 0) ++ [0] := by
    rw [List.replicate_succ', ← List.cons_append, zs_app]; rfl
  rw [this]
theorem pad_stop (T : List UInt8) : F.sha_State_Sum.l2 (stT T) (zs (128 :: List.replicate (padz (T.length % 64)) 0)) = some (.inr (zs (128 :: List.replicate (padz (T.length % 64)) 0))) := by
  unfold F.sha_State_Sum.l2
  have hr : (stT T).rest_ = ofL (shRest T) := rfl
  have hz : padz (T.length % 64) < 64 := Nat.mod_lt _ (by decide)
  rw [hr, ofL_size, shRest_length, zs_length, List.length_cons, List.length_replicate, w64 (by omega) (by omega)]
  have hne : ¬ ((((T.length % 64 : Nat) : Int) + ((padz (T.length % 64) + 1 : Nat) : Int)).tmod 64 != 56) = true := by
    have : (((T.length % 64 : Nat) : Int) + ((padz (T.length % 64) + 1 : Nat) : Int)).tmod 64 = (((T.length % 64 + (padz (T.length % 64) + 1)) % 64 : Nat) : Int) := rfl
    rw [this]
    unfold padz
    simp; omega
  rw [if_neg hne]

theorem len_step {T : List UInt8} {A : List Nat} (hA : A.length ≤ 100) {i : Nat} (hi : i < 8) :
    F.sha_State_Sum.l4 (stT T) (zs (A ++ (List.range i).map (tail8 (T.length % 18446744073709551616)))) (i : Int) = some (.inl (zs (A ++ (List.range (i + 1)).map (tail8 (T.length % 18446744073709551616))), ((i + 1 : Nat) : Int))) := by
  unfold F.sha_State_Sum.l4
  have hn : (stT T).n_ = ((T.length % 18446744073709551616 : Nat) : Int) := rfl
  have e1 : IntKind.i64.wrap (8 * (i : Int)) = ((8 * i : Nat) : Int) := by rw [w64 (by omega) (by omega)]; omega
  have e2 : IntKind.i64.wrap (56 - ((8 * i : Nat) : Int)) = ((56 - 8 * i : Nat) : Int) := by rw [w64 (by omega) (by omega)]; omega
  have e3 : IntKind.u64.wrap (((T.length % 18446744073709551616 : Nat) : Int) * 8) = ((T.length % 18446744073709551616 * 8 % 18446744073709551616 : Nat) : Int) := by simp only [u64_as]; omega
  have e4 : IntKind.i64.wrap ((i : Int) + 1) = ((i + 1 : Nat) : Int) := by rw [w64 (by omega) (by omega)]; omega
  rw [if_pos (by simp; omega), hn, e1, e2, e3, chk_pos (by omega), Int.toNat_natCast, Nat.min_eq_left (by omega), fdiv_pow, u8_nat, e4, chk_pos (by rw [zs_length]; simp [room]; omega)]
  rw [List.range_succ, List.map_append, ← List.append_assoc, zs_app (A ++ _)]
  rfl

theorem out_step {v : H8} (hv : v.ok) (r : sha_State) (hr : r.h_ = ⟨v.a, v.b, v.c, v.d, v.e, v.f, v.g, v.h⟩) {i : Nat} (hi : i < 8) :
    F.sha_State_Sum.l6 r (zs ((v.list.take i).flatMap four)) (i : Int) = some (.inl (zs ((v.list.take (i + 1)).flatMap four), ((i + 1 : Nat) : Int))) := by
  unfold F.sha_State_Sum.l6
  have e4 : IntKind.i64.wrap ((i : Int) + 1) = ((i + 1 : Nat) : Int) := by rw [w64 (by omega) (by omega)]; omega
  have hl : ([r.h_.e0, r.h_.e1, r.h_.e2, r.h_.e3, r.h_.e4, r.h_.e5, r.h_.e6, r.h_.e7] : List Int) = zs v.list := by rw [hr]; rfl
  have hll : v.list.length = 8 := rfl
  have hg : at_ (zs v.list) (i : Int) = some ((v.list.getD i 0 : Nat) : Int) := at_pos (by omega) (by rw [Int.toNat_natCast, zs_get (by omega)])
  rw [if_pos (by simp; omega), hl, hg, Option.bind_some, e4]
  have hx : v.list[i]? = some (v.list.getD i 0) := by simp [List.getD, hll, hi]
  generalize v.list.getD i 0 = x at hx
  have f1 : ((x : Nat) : Int).fdiv (2 ^ 24) = ((x / 2 ^ 24 : Nat) : Int) := fdiv_pow x 24
  have f2 : ((x : Nat) : Int).fdiv (2 ^ 16) = ((x / 2 ^ 16 : Nat) : Int) := fdiv_pow x 16
  have f3 : ((x : Nat) : Int).fdiv (2 ^ 8) = ((x / 2 ^ 8 : Nat) : Int) := fdiv_pow x 8
  have hlen : ((v.list.take i).flatMap four).length ≤ 100 := by
    have : ∀ l : List Nat, (l.flatMap four).length = 4 * l.length := by
      intro l; induction l with
      | nil => rfl
      | cons a l ih => rw [List.flatMap_cons, List.length_append, ih, List.length_cons]; simp [four]; omega
    rw [this, List.length_take]; omega
  rw [f1, f2, f3, u8_nat, u8_nat, u8_nat, u8_nat, chk_pos (by rw [zs_length]; simp only [room, List.length_cons, List.length_nil]; omega), List.take_add_one, hx, List.flatMap_append, zs_app]
  simp [four, zs]

theorem sum_eq (T : List UInt8) : F.sha_State_Sum (stT T) = some (ofL (digest T)) := by
  unfold F.sha_State_Sum
  have hon : (stT T).on_ = true := rfl
  rw [hon]
  show F.sha_State_Sum.r1 (stT T) = _
  unfold F.sha_State_Sum.r1
  have hz : padz (T.length % 64) < 64 := Nat.mod_lt _ (by decide)
  have h1 := iter_count (f := fun x => F.sha_State_Sum.l2 (stT T) x) (fun i => zs (128 :: List.replicate i 0)) (n := padz (T.length % 64)) (fun i hi => pad_step hi) (pad_stop T) (k := FUEL) (by rw [FUEL_eq]; omega)
  refine (congrArg (fun o => Option.bind o _) h1).trans ?_
  rw [Option.bind_some]
  unfold F.sha_State_Sum.r3
  generalize hA : (128 :: List.replicate (padz (T.length % 64)) 0 : List Nat) = A
  have hAl : A.length ≤ 100 := by rw [← hA]; simp; omega
  have h2 := iter_count (f := fun x => F.sha_State_Sum.l4 (stT T) x.1 x.2) (fun i => (zs (A ++ (List.range i).map (tail8 (T.length % 18446744073709551616))), (i : Int))) (n := 8) (r := zs (A ++ (List.range 8).map (tail8 (T.length % 18446744073709551616))))
    (fun i hi => by dsimp only; exact len_step hAl hi) (by dsimp only; unfold F.sha_State_Sum.l4; rw [if_neg (by decide)]) (k := FUEL) (by rw [FUEL_eq]; omega)
  simp only [List.range_zero, List.map_nil, List.append_nil] at h2
  refine (congrArg (fun o => Option.bind o _) h2).trans ?_
  rw [Option.bind_some]
  unfold F.sha_State_Sum.r5
  have hT : A ++ (List.range 8).map (tail8 (T.length % 18446744073709551616)) = shTail (T.length % 64) (T.length % 18446744073709551616) := by rw [← hA]; rfl
  rw [hT, bstr_zs, write_eq T _ (by unfold u8s shTail; simp; omega), Option.bind_some]
  generalize hv : shAll (T ++ u8s (shTail (T.length % 64) (T.length % 18446744073709551616))) = v
  have hok : v.ok := by rw [← hv]; exact shRun_ok _ _ _ shH_ok
  have h3 := iter_count (f := fun x => F.sha_State_Sum.l6 (stT (T ++ u8s (shTail (T.length % 64) (T.length % 18446744073709551616)))) x.1 x.2) (fun i => (zs ((v.list.take i).flatMap four), (i : Int))) (n := 8) (r := zs (v.list.flatMap four))
    (fun i hi => by dsimp only; exact out_step hok _ (by rw [← hv]; rfl) hi) (by dsimp only; unfold F.sha_State_Sum.l6; rw [if_neg (by decide)]; rfl) (k := FUEL) (by rw [FUEL_eq]; omega)
  refine (congrArg (fun o => Option.bind o _) h3).trans ?_
  rw [Option.bind_some]
  unfold F.sha_State_Sum.r7 digest
  rw [bstr_zs, hv]

theorem shaSum_eq (T : List UInt8) (h : T.length ≤ 9223372036854775700) : F.sha_Sum (ofL T) = some (ofL (digest T)) := by
  unfold F.sha_Sum
  rw [new_eq, Option.bind_some, write_eq [] T h, Option.bind_some, List.nil_append, sum_eq, Option.bind_some]
end Go.Proofs.Ytileogoeoiafkaa
