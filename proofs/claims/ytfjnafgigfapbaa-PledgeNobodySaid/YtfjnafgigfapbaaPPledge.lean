/- Pledges, keys, salts, what is shut and opened, slips: in plain words. -/
import Derived.Test.YtfjnafgigfapbaaPOct
namespace Go.Proofs.Ytfjnafgigfapbaa
set_option linter.all false
open Go Go.RowKit Go.Fw
set_option maxRecDepth 100000
attribute [local irreducible] FUEL

def c2 : ByteArray := ByteArray.mk #[2]
def c1 : ByteArray := ByteArray.mk #[1]
def c0 : ByteArray := ByteArray.mk #[0]
def wKey : ByteArray := ByteArray.mk #[107, 101, 121]
def wSalt : ByteArray := ByteArray.mk #[115, 97, 108, 116]
def wField : ByteArray := ByteArray.mk #[102, 105, 101, 108, 100]
theorem c2_size : c2.size = 1 := rfl
theorem c1_size : c1.size = 1 := rfl
theorem c0_size : c0.size = 1 := rfl
theorem b0_size : b0.size = 0 := rfl
theorem wSalt_size : wSalt.size = 4 := rfl
theorem wField_size : wField.size = 5 := rfl

def cutB (s : ByteArray) : ByteArray := if 300 < s.size then s.extract 0 300 else s
theorem cutB_size (s : ByteArray) : (cutB s).size ≤ 300 := by
  unfold cutB
  split
  · rw [extract_size (by omega)]; omega
  · omega
theorem cut_eq (s : ByteArray) : F.law06_cut s = some (cutB s) := by
  unfold F.law06_cut cutB
  by_cases h : 300 < s.size
  · rw [if_pos (by simp; omega), if_pos h, chk_pos (by omega)]; rfl
  · rw [if_neg (by simp; omega), if_neg h]

def ofTx (id name salt value : ByteArray) : ByteArray := (((c2 ++ textB id) ++ textB name) ++ textB salt) ++ textB value
theorem text_small {s : ByteArray} (h : s.size ≤ 10000) : (textB s).size ≤ 10008 := by
  have := textB_size (s := s) (by omega)
  omega
theorem text_eqS {s : ByteArray} (h : s.size ≤ 10000) : F.octet_Text s = some (textB s) := text_eq (by omega)
theorem ofTx_size {a b c d : ByteArray} (ha : a.size ≤ 10000) (hb : b.size ≤ 10000) (hc : c.size ≤ 10000) (hd : d.size ≤ 10000) : (ofTx a b c d).size ≤ 50000 := by
  unfold ofTx
  rw [size_app, size_app, size_app, size_app, c2_size]
  have := text_small ha
  have := text_small hb
  have := text_small hc
  have := text_small hd
  omega
theorem of_eq {a b c d : ByteArray} (m : mill_Mill) (ha : a.size ≤ 10000) (hb : b.size ≤ 10000) (hc : c.size ≤ 10000) (hd : d.size ≤ 10000) :
    F.pledge_Of a b c d m = some (sumB m.table_ (ofTx a b c d), noteM (ofTx a b c d) (sumB m.table_ (ofTx a b c d)) m) := by
  have sa := text_small ha
  have sb := text_small hb
  have sc := text_small hc
  have sd := text_small hd
  have sz := ofTx_size ha hb hc hd
  unfold F.pledge_Of
  rw [text_eqS ha, Option.bind_some]
  show chk (c2.size + (textB a).size ≤ _) _ = _
  rw [chk_pos (by rw [c2_size]; omega), text_eqS hb, Option.bind_some]
  show chk ((c2 ++ textB a).size + (textB b).size ≤ _) _ = _
  rw [chk_pos (by rw [size_app, c2_size]; omega), text_eqS hc, Option.bind_some]
  show chk (((c2 ++ textB a) ++ textB b).size + (textB c).size ≤ _) _ = _
  rw [chk_pos (by rw [size_app, size_app, c2_size]; omega), text_eqS hd, Option.bind_some]
  show chk ((((c2 ++ textB a) ++ textB b) ++ textB c).size + (textB d).size ≤ _) _ = _
  rw [chk_pos (by rw [size_app, size_app, size_app, c2_size]; omega)]
  show Option.bind (F.mill_Mill_Sum (ofTx a b c d) m) _ = _
  rw [sum_eqB m (by omega)]
  rfl
theorem key_eq {k : ByteArray} (m : mill_Mill) (h : k.size ≤ 10000) : F.pledge_Key k m = some (tagB m.table_ k wKey) := by
  unfold F.pledge_Key
  show Option.bind (F.mill_Mill_Tag k wKey m) _ = _
  rw [tag_eq m (by omega) (by decide)]
  rfl
def saltB (T : Tab) (draw name : ByteArray) : ByteArray := (tagB T draw (wSalt ++ textB name)).extract 0 16
theorem salt_eq {draw name : ByteArray} (m : mill_Mill) (hT : T32 m.table_) (h : draw.size ≤ 10000) (hn : name.size ≤ 10000) : F.pledge_Salt draw name m = some (saltB m.table_ draw name) := by
  have sn := text_small hn
  have st := hT draw (wSalt ++ textB name)
  unfold F.pledge_Salt saltB
  rw [text_eqS hn, Option.bind_some]
  show chk (wSalt.size + (textB name).size ≤ _) (Option.bind (F.mill_Mill_Tag draw (wSalt ++ textB name) m) _) = _
  rw [chk_pos (by rw [wSalt_size]; omega), tag_eq m (by omega) (by rw [size_app, wSalt_size]; omega), Option.bind_some]
  rw [st, if_pos (by omega), chk_pos (by omega)]
  rfl
theorem saltB_size {T : Tab} (hT : T32 T) (draw name : ByteArray) : (saltB T draw name).size = 16 := by
  unfold saltB
  rw [extract_size (by rw [hT]; omega)]
def labB (name : ByteArray) : ByteArray := wField ++ textB name
theorem labB_size {name : ByteArray} (h : name.size ≤ 10000) : (labB name).size ≤ 10013 := by
  unfold labB
  rw [size_app, wField_size]
  have := text_small h
  omega
theorem label_eq {name : ByteArray} (h : name.size ≤ 10000) : F.pledge_label name = some (labB name) := by
  unfold F.pledge_label
  rw [text_eqS h, Option.bind_some]
  show chk (wField.size + (textB name).size ≤ _) _ = _
  have := text_small h
  rw [chk_pos (by rw [wField_size]; omega)]
  rfl
def shutB (T : Tab) (key name salt value : ByteArray) : ByteArray := veilB T key (labB name) (salt ++ value)
theorem shut_eq {key name salt value : ByteArray} (m : mill_Mill) (hT : T32 m.table_) (hk : key.size ≤ 10000) (hn : name.size ≤ 10000) (hs : salt.size ≤ 10000) (hv : value.size ≤ 10000) :
    F.pledge_Shut key name salt value m = some (shutB m.table_ key name salt value) := by
  unfold F.pledge_Shut
  have := labB_size hn
  rw [label_eq hn, Option.bind_some, chk_pos (by omega), veil_eq m hT (by omega) (by omega) (by rw [size_app]; omega)]
  rfl
theorem shutB_size {T : Tab} (hT : T32 T) (key name salt value : ByteArray) : (shutB T key name salt value).size = salt.size + value.size := by
  unfold shutB
  rw [veilB_size hT, size_app]
def openB (T : Tab) (key name c : ByteArray) : ByteArray × ByteArray × Bool :=
  if c.size < 16 then (b0, b0, false) else ((veilB T key (labB name) c).extract 0 16, (veilB T key (labB name) c).extract 16 c.size, true)
theorem open_eq {key name c : ByteArray} (m : mill_Mill) (hT : T32 m.table_) (hk : key.size ≤ 10000) (hn : name.size ≤ 10000) (hc : c.size ≤ 10000) :
    F.pledge_Open key name c m = some (openB m.table_ key name c) := by
  have := labB_size hn
  have sv := veilB_size hT key (labB name) c
  unfold F.pledge_Open openB
  rw [label_eq hn, Option.bind_some, veil_eq m hT (by omega) (by omega) (by omega), Option.bind_some, sv]
  by_cases h : c.size < 16
  · rw [if_pos (by simp; omega), if_pos h]; rfl
  · rw [if_neg (by simp; omega), if_neg h, chk_pos (by omega), chk_pos (by omega)]
    rfl
theorem openB_small {T : Tab} (hT : T32 T) {key name c : ByteArray} (hc : c.size ≤ 10000) : (openB T key name c).1.size ≤ 10000 ∧ (openB T key name c).2.1.size ≤ 10000 := by
  have sv := veilB_size hT key (labB name) c
  unfold openB
  split
  · exact ⟨by show b0.size ≤ _; rw [b0_size]; omega, by show b0.size ≤ _; rw [b0_size]; omega⟩
  · exact ⟨by dsimp only; rw [extract_size (by omega)]; omega, by dsimp only; rw [extract_size (by omega)]; omega⟩
theorem extract_ofL (l : List UInt8) (a b : Nat) : (ofL l).extract a b = ofL ((l.take b).drop a) := by
  refine ByteArray.ext ?_
  rw [ByteArray.data_extract]
  apply Array.toList_inj.1
  simp [ofL, List.drop_take]
theorem extract_app {a b : ByteArray} {n : Nat} (h : a.size = n) : (a ++ b).extract 0 n = a ∧ (a ++ b).extract n (a ++ b).size = b := by
  have hl : a.data.toList.length = n := by rw [size_ofL', h]
  have h2 : (a ++ b).size = (a.data.toList ++ b.data.toList).length := by rw [app_eq, ofL_size]
  rw [h2, app_eq, extract_ofL, extract_ofL, List.take_length, ← hl, List.take_left, List.drop_left]
  exact ⟨by rw [List.drop_zero]; exact ofL_lit a, ofL_lit b⟩
theorem open_shut {T : Tab} (hT : T32 T) {key name salt value : ByteArray} (hs : salt.size = 16) : openB T key name (shutB T key name salt value) = (salt, value, true) := by
  have sz := shutB_size hT key name salt value
  unfold openB
  rw [if_neg (by omega)]
  unfold shutB at sz ⊢
  rw [veil_twice hT, sz]
  have h := extract_app (a := salt) (b := value) hs
  rw [size_app] at h
  rw [h.1, h.2]
def slipB (T : Tab) (draw id name value : ByteArray) : api_Slip :=
  ⟨name, sumB T (ofTx id name (saltB T draw name) value), shutB T (tagB T draw wKey) name (saltB T draw name) value, false⟩
theorem noteM_tab (s o : ByteArray) (m : mill_Mill) : (noteM s o m).table_ = m.table_ := noteM_table s o m
theorem slip_eq {draw id name value : ByteArray} (m : mill_Mill) (hT : T32 m.table_) (hd : draw.size ≤ 10000) (hi : id.size ≤ 10000) (hn : name.size ≤ 10000) (hv : value.size ≤ 10000) :
    ∃ m', F.pledge_Slip draw id name value m = some (slipB m.table_ draw id name value, m') ∧ m'.table_ = m.table_ := by
  have ss := saltB_size hT draw name
  refine ⟨noteM (ofTx id name (saltB m.table_ draw name) value) (sumB m.table_ (ofTx id name (saltB m.table_ draw name) value)) m, ?_, noteM_table _ _ _⟩
  unfold F.pledge_Slip
  rw [salt_eq m hT hd hn, Option.bind_some, of_eq m hi hn (by omega) hv, Option.bind_some]
  dsimp only
  rw [key_eq _ hd, Option.bind_some, noteM_table]
  rw [shut_eq _ (by rw [noteM_table]; exact hT) (by rw [hT]; omega) hn (by omega) hv, noteM_table]
  rfl
def keptB (T : Tab) (key id : ByteArray) (s : api_Slip) : ByteArray × ByteArray × Bool :=
  if s.Erased = false ∧ (openB T key s.Name s.Cipher).2.2 = true ∧ sumB T (ofTx id s.Name (openB T key s.Name s.Cipher).1 (openB T key s.Name s.Cipher).2.1) = s.Pledge then ((openB T key s.Name s.Cipher).1, (openB T key s.Name s.Cipher).2.1, true) else (b0, b0, false)
theorem kept_eq {key id : ByteArray} {s : api_Slip} (m : mill_Mill) (hT : T32 m.table_) (hk : key.size ≤ 10000) (hi : id.size ≤ 10000) (hn : s.Name.size ≤ 10000) (hc : s.Cipher.size ≤ 10000) :
    ∃ m', F.pledge_Kept key id s m = some ((keptB m.table_ key id s).1, (keptB m.table_ key id s).2.1, (keptB m.table_ key id s).2.2, m') ∧ m'.table_ = m.table_ := by
  unfold F.pledge_Kept keptB
  obtain ⟨o1, o2⟩ := openB_small hT (key := key) (name := s.Name) hc
  cases he : s.Erased with
  | true =>
    rw [if_pos rfl, if_neg (by simp)]
    exact ⟨m, rfl, rfl⟩
  | false =>
    rw [if_neg (by decide), open_eq m hT hk hn hc, Option.bind_some]
    generalize openB m.table_ key s.Name s.Cipher = o at o1 o2
    obtain ⟨a, b, ok⟩ := o
    cases ok with
    | false =>
      have hk : (if false = false ∧ (a, b, false).2.2 = true ∧ sumB m.table_ (ofTx id s.Name (a, b, false).1 (a, b, false).2.1) = s.Pledge then ((a, b, false).1, (a, b, false).2.1, true) else (b0, b0, false)) = (b0, b0, false) := if_neg (by simp)
      rw [hk]
      exact ⟨m, rfl, rfl⟩
    | true =>
      dsimp only at o1 o2 ⊢
      rw [if_neg (by decide), of_eq m hi hn o1 o2, Option.bind_some]
      dsimp only
      refine ⟨noteM (ofTx id s.Name a b) (sumB m.table_ (ofTx id s.Name a b)) m, ?_, noteM_table _ _ _⟩
      by_cases h : sumB m.table_ (ofTx id s.Name a b) = s.Pledge
      · have hk : (if false = false ∧ true = true ∧ sumB m.table_ (ofTx id s.Name a b) = s.Pledge then (a, b, true) else (b0, b0, false)) = (a, b, true) := if_pos ⟨rfl, rfl, h⟩
        rw [hk, h, seqB_refl]
        rfl
      · have hk : (if false = false ∧ true = true ∧ sumB m.table_ (ofTx id s.Name a b) = s.Pledge then (a, b, true) else (b0, b0, false)) = (b0, b0, false) := if_neg (fun h' => h h'.2.2)
        have : seqB (sumB m.table_ (ofTx id s.Name a b)) s.Pledge = false := by
          cases hc : seqB (sumB m.table_ (ofTx id s.Name a b)) s.Pledge with
          | false => rfl
          | true => exact absurd (seqB_iff.1 hc) h
        rw [hk, this]
        rfl
theorem T32_new : T32 m00.table_ := fun key s => hmacB_size key s
end Go.Proofs.Ytfjnafgigfapbaa
