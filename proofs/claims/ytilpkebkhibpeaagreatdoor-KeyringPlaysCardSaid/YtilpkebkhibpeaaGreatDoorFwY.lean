/- A part of the code that is a scope of its own, and leaves it by no goto. -/
import Derived.Test.YtilpkebkhibpeaaGreatDoorFwW
import Derived.Scope
namespace Go.Fw
set_option linter.all false
open Go Go.RowKit
variable {P : Program} {Q : Exit → Act → World → Prop} {n : Nat} {L : Slots} {S : World → Prop}
theorem cw_scope {c : Code} (h : CW P c (Exit.noGoto Q) n L S) : CW P (.scope c) Q n L S := fun a w hf hs => wp_scope_straight (h a w hf hs)
theorem ew_scope (h : EW Q .normal n L S) : EW (Exit.noGoto Q) .normal n L S := h
theorem ew_scope_ret (h : EW Q .ret n L S) : EW (Exit.noGoto Q) .ret n L S := h
theorem ew_scope_exit {id : Nat} (h : EW Q (.exit id) n L S) : EW (Exit.noGoto Q) (.exit id) n L S := h
section
variable {fn : Func} {tmps : Array Value} {w : World} {r1 r2 r3 r4 r5 : ResultVar} {v1 v2 v3 v4 v5 : Value}
theorem results5 (h : fn.results = #[r1, r2, r3, r4, r5]) (h1 : resRun P tmps w r1 v1) (h2 : resRun P tmps w r2 v2) (h3 : resRun P tmps w r3 v3) (h4 : resRun P tmps w r4 v4) (h5 : resRun P tmps w r5 v5) : (results fn tmps).run P w = .ok (.tuple #[v1, v2, v3, v4, v5]) w := by
  cases r1 <;> cases r2 <;> cases r3 <;> cases r4 <;> cases r5 <;> simp only [resRun] at h1 h2 h3 h4 h5 <;>
    (try obtain ⟨a1, h1, g1⟩ := h1) <;> (try obtain ⟨a2, h2, g2⟩ := h2) <;> (try obtain ⟨a3, h3, g3⟩ := h3) <;> (try obtain ⟨a4, h4, g4⟩ := h4) <;> (try obtain ⟨a5, h5, g5⟩ := h5) <;> simp [results, asAddr, *]
end
section
variable {fn : Func} {R : Value → List HP → Prop} {F H H1 : List HP} {w0 : World} {r1 r2 r3 r4 r5 : ResultVar} {v1 v2 v3 v4 v5 : Value}
theorem fin5 (hs : ∀ w, SAT w0 H w → SAT w0 (H1 ++ F) w) (hf : fn.results = #[r1, r2, r3, r4, r5]) (h1 : ∀ a w, Fr n L a → SAT w0 H w → resRun P a.tmps w r1 v1) (h2 : ∀ a w, Fr n L a → SAT w0 H w → resRun P a.tmps w r2 v2) (h3 : ∀ a w, Fr n L a → SAT w0 H w → resRun P a.tmps w r3 v3) (h4 : ∀ a w, Fr n L a → SAT w0 H w → resRun P a.tmps w r4 v4) (h5 : ∀ a w, Fr n L a → SAT w0 H w → resRun P a.tmps w r5 v5) (hR : R (.tuple #[v1, v2, v3, v4, v5]) H1) : EW (FinQ P fn R F w0) .ret n L (SAT w0 H) :=
  fin_of (fun a w x y => results5 hf (h1 a w x y) (h2 a w x y) (h3 a w x y) (h4 a w x y) (h5 a w x y)) hs hR
end
end Go.Fw
