/- strings.Trim by one byte: the kit's contract as a call over small heaps. -/
import Derived.Test.YtilpkebkhibpeaaGreatDoorFwW
import Derived.Shelf.Strings.Trim
namespace Go.Fw
set_option linter.all false
open Go Go.RowKit
/-- the one byte that is trimmed -/
def trimC (x : ByteArray) : UInt8 := x.data.toList.headD 0
abbrev trimOk (x0 x1 : ByteArray) : Prop := x1.size = 1 ∧ (trimC x1).toNat < 128 ∧ x0.size ≤ 9223372036854775807
def trimB (x0 x1 : ByteArray) : ByteArray := ⟨(Go.Lib.trimB x0.data.toList (trimC x1)).toArray⟩
theorem trim_one {x : ByteArray} (h : x.size = 1) : x = ⟨#[trimC x]⟩ := by
  have h1 : x.data.toList.length = 1 := by rw [size_ofL']; exact h
  rw [ofL_surj x]
  unfold trimC
  rw [ofL_toList]
  match hx : x.data.toList, h1 with
  | [c], _ => rfl
theorem tr_trim {P : Program} {f : FuncId} {I : Hl} {x0 x1 : ByteArray} (h : trimOk x0 x1)
    (hc : ∀ (c : UInt8) (_ : c.toNat < 128) (w : World), Calls P f #[.string x0, .string ⟨#[c]⟩] w fun e w' => e = .returned (.string ⟨(Go.Lib.trimB x0.data.toList c).toArray⟩) ∧ (w' = w ∨ w' = w.drew)) :
    Tr P f [.string x0, .string x1] [imm I] (fun r H' => r = .string (trimB x0 x1) ∧ H' = [imm I]) := by
  intro F w hs
  have := hc (trimC x1) h.2.1 w
  rw [← trim_one h.1] at this
  refine this.mono ?_
  rintro e w' ⟨rfl, hw⟩
  rcases hw with rfl | rfl
  · exact ⟨_, _, rfl, ⟨rfl, rfl⟩, hs, Keep.refl _⟩
  · exact ⟨_, _, rfl, ⟨rfl, rfl⟩, hs, ⟨rfl, rfl, rfl⟩⟩
end Go.Fw
