/- A text's sum is one in whatever parts it is written: the plain law. -/
import Derived.Test.YtadhamgijkbgeaaGParts
import Derived.Test.YtadhamgijkbgeaaPAwake
import Derived.Test.YtadhamgijkbgeaaPShb
namespace Go.Proofs.Ytadhamgijkbgeaa
set_option linter.all false
open Go Go.RowKit Go.Fw
set_option maxRecDepth 100000
attribute [local irreducible] FUEL

def cat (l : List ByteArray) : List UInt8 := l.flatMap fun s => s.data.toList
theorem cat_next {l : List ByteArray} {i : Nat} {s : ByteArray} (h : l[i]? = some s) : cat (l.take (i + 1)) = cat (l.take i) ++ s.data.toList := by
  rw [List.take_add_one, h]
  simp [cat]
theorem cat_length {M : Nat} : ∀ (l : List ByteArray), (∀ s ∈ l, s.size ≤ M) → (cat l).length ≤ l.length * M
  | [], _ => by simp [cat]
  | s :: l, h => by
    have h1 := cat_length l (fun x hx => h x (List.mem_cons_of_mem _ hx))
    have h2 : s.data.toList.length ≤ M := h s List.mem_cons_self
    have : (cat (s :: l)).length = s.data.toList.length + (cat l).length := by simp [cat]
    rw [this, List.length_cons, Nat.succ_mul]
    omega
theorem cat_take {l : List ByteArray} (h : ∀ s ∈ l, s.size ≤ 140737488351232) {i : Nat} (hi : i ≤ 20) : (cat (l.take i)).length ≤ 20 * 140737488351232 := by
  refine Nat.le_trans (cat_length (M := 140737488351232) _ fun s hs => h s (List.mem_of_mem_take hs)) ?_
  exact Nat.mul_le_mul_right _ (by rw [List.length_take]; omega)

def stP (l : List ByteArray) (i : Nat) : ByteArray × Int × Int × Int × Int × Int × Int × Int × Int × Int × ByteArray × Int × Bool :=
  (ofL (cat (l.take i)), (i : Int), (stT (cat (l.take i))).h_.e0, (stT (cat (l.take i))).h_.e1, (stT (cat (l.take i))).h_.e2, (stT (cat (l.take i))).h_.e3, (stT (cat (l.take i))).h_.e4, (stT (cat (l.take i))).h_.e5, (stT (cat (l.take i))).h_.e6, (stT (cat (l.take i))).h_.e7, (stT (cat (l.take i))).rest_, (stT (cat (l.take i))).n_, (stT (cat (l.take i))).on_)

theorem part_step {l : List ByteArray} (h : ∀ s ∈ l, s.size ≤ 140737488351232) {i : Nat} (hi : i < l.length) (h20 : i < 20) :
    F.law02_ShaParts.l2 l (stP l i).1 (stP l i).2.1 (stP l i).2.2.1 (stP l i).2.2.2.1 (stP l i).2.2.2.2.1 (stP l i).2.2.2.2.2.1 (stP l i).2.2.2.2.2.2.1 (stP l i).2.2.2.2.2.2.2.1 (stP l i).2.2.2.2.2.2.2.2.1 (stP l i).2.2.2.2.2.2.2.2.2.1 (stP l i).2.2.2.2.2.2.2.2.2.2.1 (stP l i).2.2.2.2.2.2.2.2.2.2.2.1 (stP l i).2.2.2.2.2.2.2.2.2.2.2.2 = some (.inl (stP l (i + 1))) := by
  have hx := List.getElem?_eq_getElem hi
  have hs : l[i].size ≤ 140737488351232 := h _ (List.getElem_mem hi)
  generalize l[i] = s at hx hs
  have hsl : s.data.toList.length ≤ 140737488351232 := hs
  have hM : 140737488351232 ≤ 1000000000000000000 / 20 := by decide
  have hc := cat_take h (i := i) (by omega)
  have hc1 := cat_take h (i := i + 1) (by omega)
  dsimp only [stP]
  unfold F.law02_ShaParts.l2
  rw [if_pos (by simp; omega), if_pos (by simp; omega)]
  show F.law02_ShaParts.r1 l (ofL (cat (l.take i))) (i : Int) _ _ _ _ _ _ _ _ _ _ _ = _
  unfold F.law02_ShaParts.r1
  have hat : at_ l (i : Int) = some s := at_pos (by omega) (by rw [Int.toNat_natCast]; exact hx)
  have hwr := write_eq (cat (l.take i)) s.data.toList (by omega)
  rw [← ofL_surj, ← cat_next hx] at hwr
  have hcat : ofL (cat (l.take i)) ++ s = ofL (cat (l.take (i + 1))) := by
    conv => lhs; rw [ofL_surj s]
    rw [ofL_append, ← cat_next hx]
  have e4 : IntKind.i64.wrap ((i : Int) + 1) = ((i + 1 : Nat) : Int) := by rw [w64 (by omega) (by omega)]; omega
  rw [hat, Option.bind_some]
  refine (congrArg (fun o => Option.bind o _) hwr).trans ?_
  rw [Option.bind_some, Option.bind_some, chk_pos (by rw [ofL_size]; omega), sum_eq, Option.bind_some, hcat, shaSum_eq _ (by omega), Option.bind_some, if_neg (by rw [seqB_refl]; decide), e4]
  have hn : F.sha_State_Len (stT (cat (l.take (i + 1)))) = some ((cat (l.take (i + 1))).length : Int) := by
    unfold F.sha_State_Len
    show some (IntKind.i64.wrap (((cat (l.take (i + 1))).length % 18446744073709551616 : Nat) : Int)) = _
    rw [Nat.mod_eq_of_lt (by omega), w64 (by omega) (by omega)]
  rw [hn, Option.bind_some, if_neg (by rw [ofL_size]; simp)]

theorem pure_ShaParts (l : List ByteArray) {n : Nat} (hz : (∀ s ∈ l, s.size ≤ 140737488351232) ∧ l.length * n ≤ 140737488351232) : F.law02_ShaParts l = some true := by
  have h := hz.1
  unfold F.law02_ShaParts
  rw [new_eq, Option.bind_some]
  have hM : 140737488351232 ≤ 1000000000000000000 / 20 := by decide
  let m := min l.length 20
  have hm : m = min l.length 20 := rfl
  have h1 := iter_count (f := fun x => F.law02_ShaParts.l2 l x.1 x.2.1 x.2.2.1 x.2.2.2.1 x.2.2.2.2.1 x.2.2.2.2.2.1 x.2.2.2.2.2.2.1 x.2.2.2.2.2.2.2.1 x.2.2.2.2.2.2.2.2.1 x.2.2.2.2.2.2.2.2.2.1 x.2.2.2.2.2.2.2.2.2.2.1 x.2.2.2.2.2.2.2.2.2.2.2.1 x.2.2.2.2.2.2.2.2.2.2.2.2) (stP l) (n := m)
    (r := .inl ((stT (cat (l.take m))).h_.e0, (stT (cat (l.take m))).h_.e1, (stT (cat (l.take m))).h_.e2, (stT (cat (l.take m))).h_.e3, (stT (cat (l.take m))).h_.e4, (stT (cat (l.take m))).h_.e5, (stT (cat (l.take m))).h_.e6, (stT (cat (l.take m))).h_.e7, (stT (cat (l.take m))).rest_, (stT (cat (l.take m))).n_, (stT (cat (l.take m))).on_))
    (fun i hi => part_step h (by omega) (by omega)) (by
      dsimp only [stP]
      unfold F.law02_ShaParts.l2
      by_cases hl : m < l.length
      · rw [if_pos (by simp; omega), if_neg (by simp; omega)]; rfl
      · rw [if_neg (by simp; omega)]; rfl) (k := FUEL) (by rw [FUEL_eq]; omega)
  refine (congrArg (fun o => thru o _) h1).trans ?_
  show F.law02_ShaParts.r3 _ _ _ _ _ _ _ _ _ _ _ = _
  unfold F.law02_ShaParts.r3
  refine (congrArg (fun o => Option.bind o _) (sum_eq (cat (l.take m)))).trans ?_
  rw [Option.bind_some, ofL_size, digest_length, if_pos (by decide), awake, Option.bind_some]
end Go.Proofs.Ytadhamgijkbgeaa
