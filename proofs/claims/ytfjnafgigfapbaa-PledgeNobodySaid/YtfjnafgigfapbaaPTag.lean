/- Tags, streams and veils, in plain words. -/
import Derived.Test.YtfjnafgigfapbaaPMill
import Derived.Test.YtfjnafgigfapbaaFwN
namespace Go.Proofs.Ytfjnafgigfapbaa
set_option linter.all false
open Go Go.RowKit Go.Fw
set_option maxRecDepth 100000
attribute [local irreducible] FUEL

theorem toNat_lt' (b : UInt8) : b.toNat < 256 := UInt8.toNat_lt b
theorem ixor8 (a b : UInt8) : ixor .u8 (a.toNat : Int) (b.toNat : Int) = ((a ^^^ b).toNat : Int) := by
  unfold ixor
  have ha := toNat_lt' a
  have hb := toNat_lt' b
  have e : (BitVec.ofInt IntKind.u8.bits (a.toNat : Int) ^^^ BitVec.ofInt IntKind.u8.bits (b.toNat : Int)).toNat = a.toNat ^^^ b.toNat := by
    rw [BitVec.toNat_xor, BitVec.toNat_ofInt, BitVec.toNat_ofInt]
    have h8 : (2 ^ IntKind.u8.bits : Nat) = 256 := by decide
    rw [h8]
    have e1 : ((a.toNat : Int) % ((256 : Nat) : Int)).toNat = a.toNat := by omega
    have e2 : ((b.toNat : Int) % ((256 : Nat) : Int)).toNat = b.toNat := by omega
    rw [e1, e2]
  rw [e, UInt8.toNat_xor]
  have : a.toNat ^^^ b.toNat < 256 := @Nat.xor_lt_two_pow a.toNat b.toNat 8 ha hb
  rw [wu8 (by omega) (by omega)]

/-- the bytes of numbers -/
def ns (l : List UInt8) : List Int := l.map fun b => (b.toNat : Int)
theorem ns_length (l : List UInt8) : (ns l).length = l.length := by simp [ns]
theorem ns_get {l : List UInt8} {i : Nat} {b : UInt8} (h : l[i]? = some b) : (ns l)[i]? = some (b.toNat : Int) := by simp [ns, h]
theorem ns_set (l : List UInt8) (i : Nat) (b : UInt8) : (ns l).set i (b.toNat : Int) = ns (l.set i b) := by simp [ns, List.map_set]
theorem bstr_ns (l : List UInt8) : bstr (ns l) = ofL l := by
  rw [bstr_ofL]
  congr 1
  unfold ns
  rw [List.map_map]
  conv => rhs; rw [← List.map_id l]
  congr 1
  funext b
  simp
theorem sbytes_ns (s : ByteArray) : sbytes s = ns s.data.toList := rfl

/-- a list, its first parts turned -/
def turned (f : Nat → UInt8 → UInt8) (l : List UInt8) (i : Nat) : List UInt8 := (l.take i).mapIdx f ++ l.drop i
theorem turned_zero (f : Nat → UInt8 → UInt8) (l : List UInt8) : turned f l 0 = l := by simp [turned]
theorem turned_all (f : Nat → UInt8 → UInt8) (l : List UInt8) : turned f l l.length = l.mapIdx f := by simp [turned]
theorem turned_get (f : Nat → UInt8 → UInt8) {l : List UInt8} {i : Nat} {b : UInt8} (h : l[i]? = some b) : (turned f l i)[i]? = some b := by
  have hi := lt_of_get h
  unfold turned
  rw [List.getElem?_append_right (by simp; omega)]
  simp only [List.length_mapIdx, List.length_take, List.getElem?_drop]
  rw [Nat.min_eq_left (by omega), Nat.sub_self, Nat.add_zero, h]
theorem turned_set (f : Nat → UInt8 → UInt8) {l : List UInt8} {i : Nat} {b : UInt8} (h : l[i]? = some b) : (turned f l i).set i (f i b) = turned f l (i + 1) := by
  have hi := lt_of_get h
  unfold turned
  rw [List.set_append_right _ _ (by simp; omega), List.length_mapIdx, List.length_take, Nat.min_eq_left (by omega), Nat.sub_self]
  have hd : l.drop i = b :: l.drop (i + 1) := by
    rw [List.drop_eq_getElem_cons hi]
    rw [List.getElem?_eq_getElem hi] at h
    rw [Option.some.inj h]
  rw [hd, List.set_cons_zero, List.take_add_one, h, List.mapIdx_append]
  simp [List.length_take, Nat.min_eq_left (Nat.le_of_lt hi)]
theorem turned_length (f : Nat → UInt8 → UInt8) (l : List UInt8) (i : Nat) : (turned f l i).length = l.length := by simp [turned]; omega

/-! ### keys, filled up -/
def keyB (key : ByteArray) : ByteArray := if 64 < key.size then shaB key else key
theorem keyB_size (key : ByteArray) : (keyB key).size ≤ 64 := by 
  unfold keyB
  split
  · rw [shaB_size]; omega
  · omega
def padB (key : ByteArray) (w : UInt8) : ByteArray := ofL (((keyB key).data.toList ++ List.replicate (64 - (keyB key).size) 0).map (· ^^^ w))
theorem padB_size (key : ByteArray) (w : UInt8) : (padB key w).size = 64 := by
  unfold padB
  rw [ofL_size, List.length_map, List.length_append, List.length_replicate, size_ofL']
  have := keyB_size key
  omega
theorem repB_zero (n : Nat) : repB (ByteArray.mk #[0]) n = ofL (List.replicate n 0) := by
  unfold repB ofL
  congr 2
  induction n with
  | zero => rfl
  | succ n ih => rw [Lib.repeatL, ih]; rfl
theorem mapIdx_const (w : UInt8) (l : List UInt8) : l.mapIdx (fun _ b => b ^^^ w) = l.map (· ^^^ w) := by
  apply List.ext_getElem?
  intro i
  simp
theorem pad_eq (key : ByteArray) (w : UInt8) (hk : key.size ≤ 9223372036854775700) : F.mill_pad key (w.toNat : Int) = some (padB key w) := by
  unfold F.mill_pad
  have h1 : (if decide ((key.size : Int) > 64) then (Option.bind (F.sha_Sum key) (fun (r23 : ByteArray) => some (r23))) else (some (key))) = some (keyB key) := by
    unfold keyB
    by_cases h : 64 < key.size
    · rw [if_pos (by simp; omega), if_pos h, sha_eq hk]; rfl
    · rw [if_neg (by simp; omega), if_neg h]
  refine (congrArg (fun o => Option.bind o _) h1).trans ?_
  rw [Option.bind_some]
  have hks := keyB_size key
  unfold F.mill_pad.r1 F.strings_Repeat padB
  generalize keyB key = q at hks
  rw [w64 (by omega) (by omega)]
  have e1 : ((64 : Int) - (q.size : Int)).toNat = 64 - q.size := by omega
  rw [chk_pos (by rw [e1]; show _ ∧ _ ∧ 1 * _ ≤ _; omega), e1, Option.bind_some, repB_zero]
  have hl : (ofL (List.replicate (64 - q.size) (0 : UInt8))).size = 64 - q.size := by rw [ofL_size, List.length_replicate]
  rw [chk_pos (by rw [hl]; omega), chk_pos (by rw [size_app, hl]; unfold maxLen; omega)]
  have e2 : q ++ ofL (List.replicate (64 - q.size) 0) = ofL (q.data.toList ++ List.replicate (64 - q.size) 0) := by rw [app_eq, ofL_toList]
  have e3 : sbytes (q ++ ofL (List.replicate (64 - q.size) 0)) = ns (q.data.toList ++ List.replicate (64 - q.size) 0) := by rw [e2, sbytes_ns, ofL_toList]
  rw [e3]
  have hD : (q.data.toList ++ List.replicate (64 - q.size) (0 : UInt8)).length = 64 := by rw [List.length_append, List.length_replicate, size_ofL']; omega
  generalize hDD : q.data.toList ++ List.replicate (64 - q.size) (0 : UInt8) = D at hD e3
  have h := iter_count (f := fun x => F.mill_pad.l2 (w.toNat : Int) q (ofL (List.replicate (64 - q.size) 0)) x.1 x.2) (fun i => (ns (turned (fun _ b => b ^^^ w) D i), (i : Int))) (n := D.length) (r := ns (D.map (· ^^^ w)))
    (fun i hi => by
      dsimp only
      unfold F.mill_pad.l2
      rw [e3]
      have hb := List.getElem?_eq_getElem hi
      have hg := ns_get (turned_get (fun _ b => b ^^^ w) hb)
      rw [if_pos (by rw [ns_length]; simp; omega), at_nat hg, Option.bind_some, Option.bind_some, ixor8, Int.toNat_natCast, ns_set, turned_set _ hb, wadd (by omega)])
    (by
      dsimp only
      unfold F.mill_pad.l2
      rw [e3, if_neg (by rw [ns_length]; simp), turned_all, mapIdx_const]) (k := FUEL) (by rw [FUEL_eq]; omega)
  rw [turned_zero] at h
  refine (congrArg (fun o => Option.bind o _) h).trans ?_
  rw [Option.bind_some]
  unfold F.mill_pad.r3
  rw [bstr_ns]

/-- a text's tag by a key, with a table -/
def hmacB (key s : ByteArray) : ByteArray := shaB (padB key 92 ++ shaB (padB key 54 ++ s))
def tagB (T : Tab) (key s : ByteArray) : ByteArray := if mhas T (bT ++ shaB key ++ s) then mgetD T (bT ++ shaB key ++ s) b0 else hmacB key s
theorem tag_eq {key s : ByteArray} (m : mill_Mill) (hk : key.size ≤ 1000000000000000000) (hs : s.size ≤ 1000000000000000000) : F.mill_Mill_Tag key s m = some (tagB m.table_ key s) := by
  have hh : ∀ (g : ByteArray → Option ByteArray) (_ : g = fun x => some x), (Option.bind (F.mill_pad key 92) (fun (r38 : ByteArray) => Option.bind (F.mill_pad key 54) (fun (r40 : ByteArray) => chk (r40.size + s.size ≤ 9223372036854775807) (Option.bind (F.sha_Sum (r40 ++ s)) (fun (r43 : ByteArray) => chk (r38.size + r43.size ≤ 9223372036854775807) (Option.bind (F.sha_Sum (r38 ++ r43)) g)))))) = some (hmacB key s) := by
    rintro g rfl
    rw [show (92 : Int) = ((92 : UInt8).toNat : Int) from rfl, show (54 : Int) = ((54 : UInt8).toNat : Int) from rfl, pad_eq key 92 (by omega), pad_eq key 54 (by omega), Option.bind_some, Option.bind_some, chk_pos (by rw [padB_size]; omega), sha_eq (by rw [size_app, padB_size]; omega), Option.bind_some, chk_pos (by rw [padB_size, shaB_size]; omega), sha_eq (by rw [size_app, padB_size, shaB_size]; omega)]
    rfl
  unfold F.mill_Mill_Tag F.mill_Mill_none tagB
  rw [Option.bind_some, if_neg Bool.false_ne_true]
  by_cases ht : 0 < m.table_.length
  · rw [if_pos (decide_eq_true (by omega))]
    unfold F.mill_name
    rw [if_neg (by decide), sha_eq (by omega), Option.bind_some, chk_pos (by show 1 + (shaB key).size ≤ _; rw [shaB_size]; omega), chk_pos (by rw [size_app, shaB_size]; show 1 + 32 + s.size ≤ _; omega), Option.bind_some]
    show (if mhas m.table_ (bT ++ shaB key ++ s) = true then _ else _) = _
    cases hm : mhas m.table_ (bT ++ shaB key ++ s) with
    | true => rw [if_pos rfl, if_pos rfl]; rfl
    | false => rw [if_neg Bool.false_ne_true, if_neg Bool.false_ne_true]; exact hh _ rfl
  · rw [if_neg (fun h => by have := of_decide_eq_true h; omega)]
    have : m.table_ = [] := List.length_eq_zero_iff.1 (by omega)
    rw [this, if_neg (by simp [mhas, mget])]
    exact hh _ rfl
theorem tagB_new (key s : ByteArray) : tagB [] key s = hmacB key s := rfl
theorem hmacB_size (key s : ByteArray) : (hmacB key s).size = 32 := shaB_size _
theorem tagB_size {l : List mill_Entry} (h : all32 l = true) (key s : ByteArray) : (tagB (tabOf l) key s).size = 32 := by
  unfold tagB
  split
  · rename_i hh
    obtain ⟨v, hv⟩ := mhas_iff.1 hh
    rw [mgetD_some hv]
    rw [mget_tab] at hv
    obtain ⟨e, he, rfl⟩ := Option.map_eq_some_iff.1 hv
    have := List.all_eq_true.1 h e (List.mem_of_find?_eq_some he)
    simpa using this
  · exact hmacB_size key s

/-! ### streams -/
def cnt (i : Nat) : ByteArray := ofL [UInt8.ofNat (i / 256), UInt8.ofNat i]
/-- so many tags, one behind the other -/
def blocks (T : Tab) (key label : ByteArray) : Nat → ByteArray
  | 0 => ByteArray.empty
  | i + 1 => blocks T key label i ++ tagB T key (label ++ cnt i)
def T32 (T : Tab) : Prop := ∀ key s, (tagB T key s).size = 32
theorem blocks_size {T : Tab} (hT : T32 T) (key label : ByteArray) (i : Nat) : (blocks T key label i).size = 32 * i := by
  induction i with
  | zero => rfl
  | succ i ih => unfold blocks; rw [size_app, ih, hT]; omega
def streamB (T : Tab) (key label : ByteArray) (n : Nat) : ByteArray := (blocks T key label ((n + 31) / 32)).extract 0 n
theorem u8w (n : Nat) : IntKind.u8.wrap (n : Int) = ((UInt8.ofNat n).toNat : Int) := by
  simp [IntKind.wrap, IntKind.bits, IntKind.signed]
theorem cnt_eq {i : Nat} : bstr ([IntKind.u8.wrap ((i : Int).fdiv (2 ^ 8)), IntKind.u8.wrap (i : Int)] : List Int) = cnt i := by
  rw [fdiv_pow i 8, u8w, u8w]
  exact bstr_ns [UInt8.ofNat (i / 2 ^ 8), UInt8.ofNat i]
theorem cnt_size (i : Nat) : (cnt i).size = 2 := by unfold cnt; rw [ofL_size]; rfl
theorem extract_size {s : ByteArray} {a b : Nat} (h : b ≤ s.size) : (s.extract a b).size = b - a := by
  rw [ofL_surj s, ofL_extract, ofL_size, List.length_drop, List.length_take, size_ofL']
  omega
theorem stream_eq {key label : ByteArray} {n : Nat} (m : mill_Mill) (hT : T32 m.table_) (hk : key.size ≤ 1000000000000000) (hl : label.size ≤ 1000000000000000) (hn : 1 ≤ n) (hn2 : n ≤ 100000000000000) : F.mill_Mill_Stream key label (n : Int) m = some (streamB m.table_ key label n) := by
  unfold F.mill_Mill_Stream F.mill_Mill_none
  rw [Option.bind_some, if_neg Bool.false_ne_true, if_neg (by simp; omega), thru_inl]
  unfold F.mill_Mill_Stream.r1
  have h := iter_count (f := fun x => F.mill_Mill_Stream.l2 key label (n : Int) m x.1 x.2) (fun i => ((i : Int), blocks m.table_ key label i)) (n := (n + 31) / 32) (r := blocks m.table_ key label ((n + 31) / 32))
    (fun i hi => by
      dsimp only
      unfold F.mill_Mill_Stream.l2 F.strings_Builder_Len F.strings_Builder_WriteString
      rw [Option.bind_some, blocks_size hT, if_pos (by simp; omega), cnt_eq, cnt_size, chk_pos (by omega), tag_eq m (by omega) (by rw [size_app, cnt_size]; omega), Option.bind_some, hT, chk_pos (by unfold room; omega), Option.bind_some, wadd (by omega)]
      rfl)
    (by
      dsimp only
      unfold F.mill_Mill_Stream.l2 F.strings_Builder_Len
      rw [Option.bind_some, blocks_size hT, if_neg (by simp; omega)]) (k := FUEL) (by rw [FUEL_eq]; omega)
  refine (congrArg (fun o => Option.bind o _) h).trans ?_
  rw [Option.bind_some]
  unfold F.mill_Mill_Stream.r3 F.strings_Builder_String
  rw [Option.bind_some, chk_pos (by rw [blocks_size hT]; omega)]
  rfl
theorem streamB_size {T : Tab} (hT : T32 T) (key label : ByteArray) (n : Nat) : (streamB T key label n).size = n := by
  unfold streamB
  rw [extract_size (by rw [blocks_size hT]; omega)]; rfl

/-! ### veils -/
def xorL (a b : List UInt8) : List UInt8 := List.zipWith (· ^^^ ·) a b
def veilB (T : Tab) (key label s : ByteArray) : ByteArray := if s.size = 0 then b0 else ofL (xorL s.data.toList (streamB T key label s.size).data.toList)
theorem xorL_twice : ∀ (a b : List UInt8), a.length ≤ b.length → xorL (xorL a b) b = a
  | [], b, _ => by cases b <;> rfl
  | x :: a, [], h => by simp at h
  | x :: a, y :: b, h => by
    simp only [xorL, List.zipWith_cons_cons, List.cons.injEq]
    refine ⟨?_, xorL_twice a b (by simpa using h)⟩
    rw [UInt8.xor_assoc, UInt8.xor_self, UInt8.xor_zero]
theorem xorL_length {a b : List UInt8} (h : a.length ≤ b.length) : (xorL a b).length = a.length := by simp [xorL]; omega
theorem mapIdx_zip : ∀ (l k : List UInt8), l.length = k.length → l.mapIdx (fun i b => b ^^^ (k[i]?).getD 0) = xorL l k := by
  intro l k h
  apply List.ext_getElem?
  intro i
  unfold xorL
  rw [List.getElem?_mapIdx, List.getElem?_zipWith]
  by_cases hi : i < l.length
  · rw [List.getElem?_eq_getElem hi, List.getElem?_eq_getElem (by omega : i < k.length)]; rfl
  · rw [List.getElem?_eq_none (l := l) (by omega), List.getElem?_eq_none (l := k) (by omega)]; rfl
theorem veil_eq {key label s : ByteArray} (m : mill_Mill) (hT : T32 m.table_) (hk : key.size ≤ 1000000000000000) (hl : label.size ≤ 1000000000000000) (hn2 : s.size ≤ 100000000000000) : F.mill_Mill_Veil key label s m = some (veilB m.table_ key label s) := by
  unfold F.mill_Mill_Veil veilB
  by_cases h0 : s.size = 0
  · have e : F.mill_Mill_Stream key label (s.size : Int) m = some b0 := by
      unfold F.mill_Mill_Stream F.mill_Mill_none
      rw [Option.bind_some, if_neg Bool.false_ne_true, if_pos (by simp; omega)]; rfl
    have hs : sbytes s = [] := List.length_eq_zero_iff.1 (by rw [sbytes_length]; exact h0)
    rw [e, Option.bind_some, if_pos h0, if_neg (by rw [h0]; decide), chk_pos (by rw [h0]; decide), hs]
    have h := iter_stop (f := fun (x : List Int × Int) => F.mill_Mill_Veil.l1 s b0 x.1 x.2) (k := 18446744073709551615) (s := ([], 0)) (r := []) (by
      dsimp only
      unfold F.mill_Mill_Veil.l1
      rw [hs, if_neg (by decide)])
    rw [show 18446744073709551615 + 1 = FUEL by rw [FUEL_eq]] at h
    refine (congrArg (fun o => Option.bind o _) h).trans ?_
    rfl
  · rw [stream_eq m hT hk hl (by omega) hn2, Option.bind_some, if_neg (by rw [streamB_size hT]; simp), chk_pos (by unfold maxLen; omega), if_neg h0]
    have hsz := streamB_size hT key label s.size
    generalize streamB m.table_ key label s.size = k at hsz
    have e3 : sbytes s = ns s.data.toList := rfl
    have hD : s.data.toList.length = s.size := size_ofL' s
    have hk2 : k.data.toList.length = s.size := by rw [size_ofL', hsz]
    rw [e3]
    have h := iter_count (f := fun x => F.mill_Mill_Veil.l1 s k x.1 x.2) (fun i => (ns (turned (fun i b => b ^^^ (k.data.toList[i]?).getD 0) s.data.toList i), (i : Int))) (n := s.data.toList.length) (r := ns (xorL s.data.toList k.data.toList))
      (fun i hi => by
        dsimp only
        unfold F.mill_Mill_Veil.l1
        have hb := List.getElem?_eq_getElem hi
        have hg := ns_get (turned_get (fun i b => b ^^^ (k.data.toList[i]?).getD 0) hb)
        have hbt : bt k (i : Int) = (((k.data.toList[i]?).getD 0).toNat : Int) := by
          conv => lhs; rw [ofL_surj k]
          rw [bt_ofL, Int.toNat_natCast]
        rw [e3, if_pos (by rw [ns_length]; simp; omega), at_nat hg, Option.bind_some, chk_pos (by omega), Option.bind_some, hbt, ixor8, Int.toNat_natCast, ns_set, turned_set _ hb, wadd (by omega)])
      (by
        dsimp only
        unfold F.mill_Mill_Veil.l1
        rw [e3, if_neg (by rw [ns_length]; simp), turned_all, mapIdx_zip _ _ (by omega)]) (k := FUEL) (by rw [FUEL_eq]; omega)
    rw [turned_zero] at h
    refine (congrArg (fun o => Option.bind o _) h).trans ?_
    rw [Option.bind_some]
    unfold F.mill_Mill_Veil.r2
    rw [bstr_ns]
theorem veilB_size {T : Tab} (hT : T32 T) (key label s : ByteArray) : (veilB T key label s).size = s.size := by
  unfold veilB
  split
  · rename_i h; rw [h]; rfl
  · rw [ofL_size, xorL_length (by rw [size_ofL', size_ofL', streamB_size hT]; exact Nat.le_refl _), size_ofL']
theorem empty_of_size {s : ByteArray} (h : s.size = 0) : s = b0 := by
  rw [ofL_surj s]
  have : s.data.toList = [] := List.length_eq_zero_iff.1 (by rw [size_ofL', h])
  rw [this]; rfl
theorem veil_twice {T : Tab} (hT : T32 T) (key label s : ByteArray) : veilB T key label (veilB T key label s) = s := by
  have hsz := veilB_size hT key label s
  by_cases h0 : s.size = 0
  · rw [empty_of_size (by rw [hsz, h0] : (veilB T key label s).size = 0), empty_of_size h0]; rfl
  · have e : veilB T key label s = ofL (xorL s.data.toList (streamB T key label s.size).data.toList) := by unfold veilB; rw [if_neg h0]
    have e2 : ∀ v : ByteArray, v.size = s.size → veilB T key label v = ofL (xorL v.data.toList (streamB T key label s.size).data.toList) := fun v hv => by unfold veilB; rw [hv, if_neg h0]
    rw [e2 _ hsz, e, ofL_toList, xorL_twice _ _ (by rw [size_ofL', size_ofL', streamB_size hT]; exact Nat.le_refl _), ← ofL_surj]
end Go.Proofs.Ytfjnafgigfapbaa
