/- The disk in plain words. -/
import Derived.Test.YtgbloaophfaaoaaGreatDoorGPlaysc
import Derived.Test.YtgbloaophfaaoaaGreatDoorFwN
import Derived.KernelRfl
namespace Go.Proofs.YtgbloaophfaaoaaGreatDoor
set_option linter.all false
open Go Go.RowKit Go.Fw
set_option maxRecDepth 100000
attribute [local irreducible] FUEL

def e0 : ByteArray := ByteArray.mk #[]
def zS : disk_sector := ⟨e0, 0⟩
theorem size_bstr (l : List Int) : (bstr l).size = l.length := by rw [bstr_ofL, ofL_size, List.length_map]
theorem getq {α : Type} {l : List α} {i : Nat} (h : i < l.length) : ∃ y, l[i]? = some y := ⟨l[i], List.getElem?_eq_getElem h⟩
theorem rep_get {α : Type} (x z : α) {i n : Nat} (h : i < n) : (List.replicate i x ++ List.replicate (n - i) z)[i]? = some z := by
  obtain ⟨k, hk⟩ : ∃ k, n - i = k + 1 := ⟨n - i - 1, by omega⟩
  rw [List.getElem?_append_right (by simp), List.length_replicate, Nat.sub_self, hk, List.replicate_succ]
  rfl
theorem rep_set {α : Type} (x z : α) {i n : Nat} (h : i < n) : (List.replicate i x ++ List.replicate (n - i) z).set i x = List.replicate (i + 1) x ++ List.replicate (n - (i + 1)) z := by
  obtain ⟨k, hk⟩ : ∃ k, n - i = k + 1 := ⟨n - i - 1, by omega⟩
  rw [hk, show n - (i + 1) = k by omega, List.replicate_succ, List.set_append_right _ _ (by simp), List.length_replicate, Nat.sub_self, List.set_cons_zero, List.replicate_succ', List.append_assoc]
  rfl

/-- so many of a byte -/
def fillB (c : Int) (n : Nat) : ByteArray := bstr (List.replicate n c)
theorem fillB_size (c : Int) (n : Nat) : (fillB c n).size = n := by unfold fillB; rw [size_bstr, List.length_replicate]
def blankB : ByteArray := repB (ByteArray.mk #[0]) 64
theorem blank_fill : blankB = fillB 0 64 := by kernel_rfl
theorem blank_eq : F.disk_blank = some blankB := by
  unfold F.disk_blank F.strings_Repeat
  rw [chk_pos (by decide)]
  rfl
theorem blank_size : blankB.size = 64 := by rw [blank_fill, fillB_size]

def newD (n : Nat) : disk_Disk := ⟨List.replicate n ⟨blankB, 0⟩, [], false, false, 0, ⟨0, 0⟩, 0, 0⟩
theorem new_none {x : Int} (h : x < 1 ∨ 8192 < x) : F.disk_New x = some (none, 1) := by
  unfold F.disk_New
  by_cases h1 : x < 1
  · rw [if_pos (by simp; omega)]; rfl
  · rw [if_neg (by simp; omega), if_pos (by simp; omega)]; rfl
theorem new_eq {n : Nat} (h1 : 1 ≤ n) (h2 : n ≤ 8192) : F.disk_New (n : Int) = some (some (newD n), 0) := by
  unfold F.disk_New
  rw [if_neg (by simp; omega), if_neg (by simp; omega), thru_inl]
  unfold F.disk_New.r1
  rw [chk_pos (by refine ⟨by omega, ?_⟩; rw [Int.toNat_natCast]; unfold room; omega), Int.toNat_natCast]
  have e := iter_count (f := fun (x : Int × List disk_sector) => F.disk_New.l2 (n : Int) x.1 x.2) (fun i => ((i : Int), List.replicate i (⟨blankB, 0⟩ : disk_sector) ++ List.replicate (n - i) zS)) (n := n) (r := List.replicate n (⟨blankB, 0⟩ : disk_sector)) (fun i hi => by
    dsimp only
    unfold F.disk_New.l2
    rw [if_pos (by rw [Int.toNat_natCast, List.length_replicate]; simp; omega), blank_eq, Option.bind_some, at_nat (rep_get _ _ hi), Option.bind_some, wadd (by omega)]
    rw [Int.toNat_natCast]
    exact congrArg (fun z => some (Sum.inl (((i + 1 : Nat) : Int), z))) (rep_set (⟨blankB, 0⟩ : disk_sector) zS hi))
    (by
      dsimp only
      unfold F.disk_New.l2
      rw [if_neg (by rw [Int.toNat_natCast, List.length_replicate]; simp), Nat.sub_self, List.replicate_zero, List.append_nil]) (k := FUEL) (by rw [FUEL_eq]; omega)
  refine (congrArg (fun o => Option.bind o _) e).trans ?_
  rfl
theorem wait_len : ∀ (n : Nat) (l : List Int), l.Nodup → (∀ x ∈ l, 0 ≤ x ∧ x < (n : Int)) → l.length ≤ n
  | 0, l, _, h => by
    cases l with
    | nil => exact Nat.le_refl _
    | cons x l => have := h x (by simp); omega
  | n + 1, l, hn, h => by
    by_cases hm : (n : Int) ∈ l
    · have h1 := wait_len n (l.erase (n : Int)) (hn.erase _) (fun x hx => by
        rw [hn.mem_erase_iff] at hx
        have := h x hx.2
        have := hx.1
        omega)
      rw [List.length_erase_of_mem hm] at h1
      omega
    · have h1 := wait_len n l hn (fun x hx => by
        have := h x hx
        have : x ≠ (n : Int) := fun e => hm (by rw [← e]; exact hx)
        omega)
      omega

/-- a disk as it may be -/
structure DOk (d : disk_Disk) : Prop where
  sec : ∀ x ∈ d.sure_, x.s_.size = 64
  keys : (d.wait_.map Prod.fst).Nodup
  inr : ∀ p ∈ d.wait_, 0 ≤ p.1 ∧ p.1 < (d.sure_.length : Int) ∧ p.2.s_.size = 64
  pos : 1 ≤ d.sure_.length
  len : d.sure_.length ≤ 8192
theorem DOk.few {d : disk_Disk} (h : DOk d) : d.wait_.length ≤ 8192 := by
  have := wait_len d.sure_.length (d.wait_.map Prod.fst) h.keys (fun x hx => by
    obtain ⟨p, hp, rfl⟩ := List.mem_map.1 hx
    have := h.inr p hp
    exact ⟨this.1, this.2.1⟩)
  rw [List.length_map] at this
  have := h.len
  omega
theorem new_ok {n : Nat} (h1 : 1 ≤ n) (h2 : n ≤ 8192) : DOk (newD n) where
  sec x hx := by rw [(List.mem_replicate.1 hx).2]; exact blank_size
  keys := List.nodup_nil
  inr p hp := by cases hp
  pos := by unfold newD; rw [List.length_replicate]; exact h1
  len := by unfold newD; rw [List.length_replicate]; exact h2

/-- why nothing can be done with a sector -/
def whyB (d : disk_Disk) (i : Int) : Int := if d.off_ then 8 else if i < 0 ∨ (d.sure_.length : Int) ≤ i then 5 else 0
theorem why_eq {d : disk_Disk} (h : 1 ≤ d.sure_.length) (i : Int) : F.disk_Disk_why i d = some (whyB d i) := by
  unfold F.disk_Disk_why F.disk_Disk_Size whyB
  rw [Option.bind_some, if_neg (by intro hh; rw [beq_iff_eq] at hh; omega)]
  cases d.off_ with
  | true => rfl
  | false =>
    simp only [Bool.false_eq_true, if_false]
    by_cases h1 : i < 0
    · rw [if_pos (by simpa using h1), if_pos (.inl h1)]
    · rw [if_neg (by simpa using h1)]
      by_cases h2 : (d.sure_.length : Int) ≤ i
      · rw [if_pos (by simpa using h2), if_pos (.inr h2)]
      · rw [if_neg (by simpa using h2), if_neg (by omega)]

/-! ### what waits -/
def keysD (d : disk_Disk) : List Int := d.wait_.map Prod.fst
theorem sortI_p (l : List Int) : (sortI l).Perm l := List.mergeSort_perm l _
theorem sortI_lt {l : List Int} (h : l.Nodup) : (sortI l).Pairwise (· < ·) := by
  have tr : ∀ a b c : Int, decide (a ≤ b) = true → decide (b ≤ c) = true → decide (a ≤ c) = true := fun a b c h1 h2 => by simp at *; omega
  have tot : ∀ a b : Int, (decide (a ≤ b) || decide (b ≤ a)) = true := fun a b => by simp; omega
  have h1 := List.pairwise_mergeSort tr tot l
  have h2 : (sortI l).Nodup := (sortI_p l).nodup_iff.2 h
  exact (List.Pairwise.and h1 h2).imp fun {a b} hab => by
    have h3 := hab.1
    have h4 : a ≠ b := hab.2
    simp at h3
    omega
theorem waiting_eq {d : disk_Disk} (h : DOk d) : F.disk_Disk_Waiting d = some (sortI (keysD d)) := by
  have hp := h.pos
  have hf := h.few
  unfold F.disk_Disk_Waiting F.disk_Disk_Size
  rw [Option.bind_some, if_neg (by intro hh; rw [beq_iff_eq] at hh; omega), chk_pos (by omega), ordw_F_disk_Disk_Waiting_l1 _ _ (fun _ => by unfold room; simp only [List.length_nil]; omega), Option.bind_some, List.nil_append]
  unfold F.disk_Disk_Waiting.x2
  rw [Option.bind_some]
  unfold F.disk_Disk_Waiting.r3
  rw [chk_pos (by rw [List.length_map]; omega)]
  rfl

/-! ### the power goes -/
def keepB (f : disk_Fall) (k : Nat) : Bool := (iand .u64 (f.Keep.fdiv ((2 : Int) ^ (min ((k : Int).tmod 64).toNat 64))) 1) == 1
def tearB (f : disk_Fall) (k : Nat) : Bool := decide (0 ≤ f.Tear) && (f.Tear.tdiv 64 == (k : Int))
def tearN (f : disk_Fall) : Nat := (f.Tear.tmod 64).toNat
/-- what comes of a sector that waits, by what was sure, and by what was written -/
def fallV (f : disk_Fall) (k : Nat) (old new : disk_sector) : disk_sector :=
  if tearB f k then ⟨new.s_.extract 0 (tearN f) ++ (if keepB f k then new else old).s_.extract (tearN f) 64, new.at_⟩ else if keepB f k then new else old
def fallG (f : disk_Fall) (w : List (Int × disk_sector)) : List Int → Nat → List disk_sector → List disk_sector
  | [], _, s => s
  | i :: ks, k, s => fallG f w ks (k + 1) (match s[i.toNat]? with | some old => s.set i.toNat (fallV f k old (mgetD w i zS)) | none => s)
structure FOk (f : disk_Fall) : Prop where
  lo : -9223372036854775808 ≤ f.Tear
  hi : f.Tear ≤ 9223372036854775807
theorem extract_sz {s : ByteArray} {a b : Nat} (h : b ≤ s.size) : (s.extract a b).size = b - a := extract_size h
theorem fallV_size {f : disk_Fall} {k : Nat} {old new : disk_sector} (h1 : old.s_.size = 64) (h2 : new.s_.size = 64) : (fallV f k old new).s_.size = 64 := by
  unfold fallV
  have hT : tearN f ≤ 64 := by
    unfold tearN
    have := Int.tmod_lt_of_pos f.Tear (show (0 : Int) < 64 by decide)
    omega
  split
  · dsimp only
    have hc : (if keepB f k then new else old).s_.size = 64 := by split <;> assumption
    rw [size_app, extract_sz (by omega), extract_sz (by omega)]
    omega
  · split <;> assumption
theorem tdiv_rng {a : Int} (h1 : -9223372036854775808 ≤ a) (h2 : a ≤ 9223372036854775807) : -9223372036854775808 ≤ a.tdiv 64 ∧ a.tdiv 64 ≤ 9223372036854775807 := by
  cases a with
  | ofNat n =>
    have e : (Int.ofNat n).tdiv 64 = ((n / 64 : Nat) : Int) := rfl
    rw [e]
    have : (Int.ofNat n) = (n : Int) := rfl
    omega
  | negSucc n =>
    have e : (Int.negSucc n).tdiv 64 = -(((n + 1) / 64 : Nat) : Int) := rfl
    rw [e]
    have : (Int.negSucc n) = -((n : Int) + 1) := rfl
    omega
theorem fall_step {f : disk_Fall} (hf : FOk f) {d : disk_Disk} {R : List Int} {k : Nat} {i : Int} {s : List disk_sector} {old : disk_sector} (hk : R[k]? = some i) (hkl : k < 100000) (hi : 0 ≤ i) (ho : s[i.toNat]? = some old) (h1 : old.s_.size = 64) (h2 : (mgetD d.wait_ i zS).s_.size = 64) :
    F.disk_Disk_drop.l3 f d R (k : Int) s = some (.inl (((k + 1 : Nat) : Int), s.set i.toNat (fallV f k old (mgetD d.wait_ i zS)))) := by
  have hlt := lt_of_get hk
  have hat : at_ s i = some old := at_pos hi ho
  have hil : i.toNat < s.length := lt_of_get ho
  have ht0 : 0 ≤ (k : Int).tmod 64 := Int.tmod_nonneg _ (by omega)
  have hlo := hf.lo
  have hhi := hf.hi
  have hw : IntKind.i64.wrap (f.Tear.tdiv 64) = f.Tear.tdiv 64 := w64 (tdiv_rng hlo hhi).1 (tdiv_rng hlo hhi).2
  have hset : s.set i.toNat old = s := by
    apply List.ext_getElem?
    intro j
    rw [List.getElem?_set]
    split
    · rename_i e
      subst e
      exact ho.symm
    · rfl
  unfold F.disk_Disk_drop.l3
  rw [if_pos (by simp; omega), at_nat hk, Option.bind_some, chk_pos ht0]
  have hkeep : (if ((iand .u64 (f.Keep.fdiv ((2 : Int) ^ (min ((k : Int).tmod 64).toNat 64))) 1) == 1) = true then (Option.bind (at_ s i) (fun (y41 : disk_sector) => some ((s.set i.toNat (mgetD d.wait_ i (⟨(ByteArray.mk #[]), 0⟩ : disk_sector)))))) else (some s)) = some (s.set i.toNat (if keepB f k then mgetD d.wait_ i zS else old)) := by
    unfold keepB
    cases ((iand .u64 (f.Keep.fdiv ((2 : Int) ^ (min ((k : Int).tmod 64).toNat 64))) 1) == 1) with
    | true => rw [if_pos rfl, if_pos rfl, hat]; rfl
    | false => rw [if_neg (by decide), if_neg (by decide), hset]
  rw [hkeep, Option.bind_some]
  unfold F.disk_Disk_drop.r1
  have htear : (if decide (f.Tear ≥ 0) = true then some (IntKind.i64.wrap (f.Tear.tdiv 64) == (k : Int)) else some false) = some (tearB f k) := by
    unfold tearB
    rw [hw]
    by_cases h0 : 0 ≤ f.Tear
    · rw [if_pos (by simpa using h0)]; simp [h0]
    · rw [if_neg (by simpa using h0)]; simp [h0]
  rw [htear, Option.bind_some]
  unfold F.disk_Disk_drop.r2 fallV
  cases htb : tearB f k with
  | false => simp only [Bool.false_eq_true, if_false]; rw [wadd (by omega)]
  | true =>
    have hT0 : 0 ≤ f.Tear := by
      unfold tearB at htb
      simp at htb
      exact htb.1
    have hm0 : 0 ≤ f.Tear.tmod 64 := Int.tmod_nonneg _ hT0
    have hm1 := Int.tmod_lt_of_pos f.Tear (show (0 : Int) < 64 by decide)
    have hs2 : (if keepB f k then mgetD d.wait_ i zS else old).s_.size = 64 := by split <;> assumption
    have hget : at_ (s.set i.toNat (if keepB f k then mgetD d.wait_ i zS else old)) i = some (if keepB f k then mgetD d.wait_ i zS else old) := at_pos hi (by rw [List.getElem?_set_self hil])
    rw [if_pos rfl, if_pos rfl]
    show chk (0 ≤ (0 : Int) ∧ (0 : Int) ≤ (f.Tear.tmod 64) ∧ (f.Tear.tmod 64) ≤ ((mgetD d.wait_ i zS).s_.size : Int)) _ = _
    rw [chk_pos (by omega), hget, Option.bind_some, chk_pos (by omega)]
    have hx1 : ((mgetD d.wait_ i zS).s_.extract (0 : Int).toNat (f.Tear.tmod 64).toNat).size ≤ 64 := by rw [extract_sz (by omega)]; omega
    have hx2 : ((if keepB f k then mgetD d.wait_ i zS else old).s_.extract (f.Tear.tmod 64).toNat ((if keepB f k then mgetD d.wait_ i zS else old).s_.size : Int).toNat).size ≤ 64 := by rw [extract_sz (by omega)]; omega
    show chk (((mgetD d.wait_ i zS).s_.extract (0 : Int).toNat (f.Tear.tmod 64).toNat).size + _ ≤ _) _ = _
    rw [chk_pos (by omega), wadd (by omega)]
    rw [List.set_set, hs2]
    rfl
theorem drop_eq {f : disk_Fall} (hf : FOk f) {d : disk_Disk} (h : DOk d) : F.disk_Disk_drop f d = some ⟨fallG f d.wait_ (sortI (keysD d)) 0 d.sure_, [], true, false, d.left_, d.fall_, d.acts_, IntKind.i64.wrap (d.falls_ + 1)⟩ := by
  unfold F.disk_Disk_drop
  rw [waiting_eq h, Option.bind_some]
  have hin : ∀ i ∈ sortI (keysD d), 0 ≤ i ∧ i < (d.sure_.length : Int) ∧ (mgetD d.wait_ i zS).s_.size = 64 := fun i hi => by
    have hi := (sortI_p _).mem_iff.1 hi
    obtain ⟨p, hp, rfl⟩ := List.mem_map.1 hi
    have h1 := h.inr p hp
    refine ⟨h1.1, h1.2.1, ?_⟩
    have : ∀ (l : List (Int × disk_sector)), (∀ q ∈ l, q.2.s_.size = 64) → p ∈ l → (mgetD l p.1 zS).s_.size = 64 := by
      intro l
      induction l with
      | nil => intro _ hp; cases hp
      | cons q l ih =>
        intro hq hp
        unfold mgetD
        rw [mget_cons]
        by_cases e : p.1 = q.1
        · rw [if_pos e]; exact hq q (by simp)
        · rw [if_neg e]
          have hp' : p ∈ l := by
            rcases List.mem_cons.1 hp with rfl | hp
            · exact absurd rfl e
            · exact hp
          exact ih (fun q hq' => hq q (by simp [hq'])) hp'
    exact this d.wait_ (fun q hq => (h.inr q hq).2.2) hp
  have hlen : (sortI (keysD d)).length ≤ 8192 := by
    rw [(sortI_p _).length_eq]
    unfold keysD
    rw [List.length_map]
    exact h.few
  have key : ∀ (ks : List Int) (k : Nat) (s : List disk_sector) (G : Nat), (sortI (keysD d)).drop k = ks → s.length = d.sure_.length → (∀ x ∈ s, x.s_.size = 64) → ks.length < G → iter (fun x => F.disk_Disk_drop.l3 f d (sortI (keysD d)) x.1 x.2) G ((k : Int), s) = some (fallG f d.wait_ ks k s) := by
    intro ks
    induction ks with
    | nil =>
      intro k s G hk _ _ hG
      obtain ⟨G, rfl⟩ : ∃ g, G = g + 1 := ⟨G - 1, by omega⟩
      refine iter_stop ?_
      dsimp only
      unfold F.disk_Disk_drop.l3
      rw [if_neg (by
        have := List.drop_eq_nil_iff.1 hk
        simp; omega)]
      rfl
    | cons i ks ih =>
      intro k s G hk hs h64 hG
      obtain ⟨G, rfl⟩ : ∃ g, G = g + 1 := ⟨G - 1, by simp at hG; omega⟩
      have hki : (sortI (keysD d))[k]? = some i := by
        have := congrArg List.head? hk
        rw [List.head?_drop] at this
        simpa using this
      have hi := hin i (List.mem_of_getElem? hki)
      obtain ⟨old, ho⟩ := getq (l := s) (i := i.toNat) (by omega)
      have ho64 := h64 old (List.mem_of_getElem? ho)
      have hkl := lt_of_get hki
      unfold fallG
      rw [ho]
      refine iter_next (fall_step hf hki (by omega) hi.1 ho ho64 hi.2.2) ?_
      refine ih (k + 1) _ G ?_ (by rw [List.length_set]; exact hs) (fun x hx => ?_) (by simp at hG; omega)
      · rw [← List.drop_drop, hk]; rfl
      · rcases List.mem_or_eq_of_mem_set hx with hx | rfl
        · exact h64 x hx
        · exact fallV_size ho64 hi.2.2
  have e := key (sortI (keysD d)) 0 d.sure_ FUEL rfl rfl h.sec (by rw [FUEL_eq]; omega)
  refine (congrArg (fun o => Option.bind o _) e).trans ?_
  rfl
/-- each sector by itself -/
theorem fallG_get {f : disk_Fall} {w : List (Int × disk_sector)} : ∀ (ks : List Int) (k : Nat) (s : List disk_sector) (j : Nat), ks.Pairwise (· < ·) → (∀ i ∈ ks, 0 ≤ i) →
    ((j : Int) ∉ ks → (fallG f w ks k s)[j]? = s[j]?) ∧ (∀ m, ks[m]? = some (j : Int) → (fallG f w ks k s)[j]? = (s[j]?).map fun old => fallV f (k + m) old (mgetD w (j : Int) zS))
  | [], k, s, j, _, _ => ⟨fun _ => rfl, fun m h => by cases m <;> cases h⟩
  | i :: ks, k, s, j, hp, h0 => by
    obtain ⟨p1, p2⟩ := List.pairwise_cons.1 hp
    have hi := h0 i (by simp)
    obtain ⟨r1, r2⟩ := fallG_get ks (k + 1) (match s[i.toNat]? with | some old => s.set i.toNat (fallV f k old (mgetD w i zS)) | none => s) j p2 (fun i hi => h0 i (by simp [hi]))
    have hset : i ≠ (j : Int) → (match s[i.toNat]? with | some old => s.set i.toNat (fallV f k old (mgetD w i zS)) | none => s)[j]? = s[j]? := by
      intro hij
      cases hs : s[i.toNat]? with
      | none => rfl
      | some old => dsimp only; rw [List.getElem?_set_ne (by omega)]
    refine ⟨fun hj => ?_, fun m hm => ?_⟩
    · unfold fallG
      rw [r1 (fun h => hj (by simp [h])), hset (fun e => hj (by simp [e]))]
    · unfold fallG
      cases m with
      | zero =>
        simp at hm
        subst hm
        rw [r1 (fun h => by have := p1 _ h; omega)]
        rw [Int.toNat_natCast]
        cases hs : s[j]? with
        | none => dsimp only; rw [hs]; rfl
        | some old =>
          dsimp only
          rw [List.getElem?_set_self (lt_of_get hs)]
          rfl
      | succ m =>
        simp at hm
        have hij : i ≠ (j : Int) := by
          have := p1 _ (List.mem_of_getElem? hm)
          omega
        rw [r2 m hm, hset hij, show k + 1 + m = k + (m + 1) by omega]

/-! ### acts -/
theorem act_eq {d : disk_Disk} (hf : FOk d.fall_) (h : DOk d) : F.disk_Disk_act d = some (if d.armed_ = true ∧ d.left_ = 0 then (8, ⟨fallG d.fall_ d.wait_ (sortI (keysD d)) 0 d.sure_, [], true, false, d.left_, d.fall_, d.acts_, IntKind.i64.wrap (d.falls_ + 1)⟩) else (0, ⟨d.sure_, d.wait_, d.off_, d.armed_, IntKind.i64.wrap (d.left_ - 1), d.fall_, IntKind.i64.wrap (d.acts_ + 1), d.falls_⟩)) := by
  unfold F.disk_Disk_act
  cases ha : d.armed_ with
  | false =>
    rw [if_neg (by decide), Option.bind_some, if_neg (fun h => by cases h.1)]
    unfold F.disk_Disk_act.r1 F.disk_Disk_act.r2
    rw [if_neg (by decide), thru_inl, ha]
  | true =>
    rw [if_pos rfl, Option.bind_some]
    unfold F.disk_Disk_act.r1
    by_cases hl : d.left_ = 0
    · rw [if_pos (by simpa using hl), if_pos ⟨rfl, hl⟩, drop_eq hf h, Option.bind_some]
      rfl
    · rw [if_neg (by simpa using hl), if_neg (fun h => hl h.2), thru_inl]
      unfold F.disk_Disk_act.r2
      rw [ha]
end Go.Proofs.YtgbloaophfaaoaaGreatDoor
