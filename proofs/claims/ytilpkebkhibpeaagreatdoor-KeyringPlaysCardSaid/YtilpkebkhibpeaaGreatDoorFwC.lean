/- Calls over small heaps; variables in memory: a block that is known whole. -/
import Derived.Test.YtilpkebkhibpeaaGreatDoorFwB
namespace Go.Fw
set_option linter.all false
open Go Go.RowKit

/-- what is known of a world: what its heap holds, and that the outside is as it was -/
def SAT (w0 : World) (H : List HP) : World → Prop := fun w => Sat H (hp w) ∧ Keep w0 w

/-- a block that is known whole -/
def pt (b : Nat) (cs : Array Value) (T : TypeId) : HP := fun h => h b = some (.cells cs T (0, 0))
/-- what is never written -/
def imm (I : Hl) : HP := fun h => Hl.sub I h

/-- A CALL: called where H holds (and whatever else beside it), it returns, and R tells its result and what holds then. -/
def Tr (P : Program) (f : FuncId) (args : List Value) (H : List HP) (R : Value → List HP → Prop) : Prop :=
  ∀ F w, Sat (H ++ F) (hp w) → Calls P f args.toArray w fun e w' => ∃ r H', e = .returned r ∧ R r H' ∧ Sat (H' ++ F) (hp w') ∧ Keep w w'

def rows : Nat → List Value → Slots
  | _, [] => []
  | k, v :: vs => (k, v) :: rows (k + 1) vs
theorem look_rows : ∀ (vs : List Value) (k t : Nat) (v : Value), look (rows k vs) t = some v → k ≤ t ∧ vs[t - k]? = some v
  | [], _, _, _, h => by cases h
  | u :: vs, k, t, v, h => by
    simp only [rows, look_cons] at h
    split at h
    · rename_i e; subst e; simpa using h
    · rename_i e
      obtain ⟨h1, h2⟩ := look_rows vs (k + 1) t v h
      refine ⟨by omega, ?_⟩
      rw [show t - k = (t - (k + 1)) + 1 by omega]
      simpa using h2

def FinQ (P : Program) (fn : Func) (R : Value → List HP → Prop) (F : List HP) (w0 : World) : Exit → Act → World → Prop :=
  bodyPost P fn fun e w' => ∃ r H', e = .returned r ∧ R r H' ∧ Sat (H' ++ F) (hp w') ∧ Keep w0 w'

theorem tr_of_cw {P : Program} {f : FuncId} {fn : Func} {c : Code} {args : List Value} {H : List HP} {R : Value → List HP → Prop}
    (hf : P.funcs[f]? = some fn) (hb : fn.body = some c) (hn : args.length ≤ fn.ntmps) (n : Nat) (hnn : fn.ntmps = n)
    (h : ∀ F w0, CW P c (FinQ P fn R F w0) n (rows 0 args) (SAT w0 (H ++ F))) : Tr P f args H R := by
  subst hnn
  intro F w hs
  refine calls_of_wp hf hb (h F w _ w ⟨by simp; omega, rfl, fun t v ht => ?_⟩ ⟨hs, Keep.refl w⟩)
  obtain ⟨_, h2⟩ := look_rows args 0 t v ht
  have hlt : t < args.length := by have := (List.getElem?_eq_some_iff.1 h2).1; omega
  rw [Array.getElem?_append_left (by simpa using hlt)]
  simpa using h2

/-- a result, in a slot or in memory -/
def resRun (P : Program) (tmps : Array Value) (w : World) : ResultVar → Value → Prop
  | .tmp t, v => tmps[t]? = some v
  | .cell a t, v => ∃ ad, tmps[a]? = some (.pointer (some ad)) ∧ (loadVar t ad).run P w = .ok v w
section
variable {P : Program} {fn : Func} {tmps : Array Value} {w : World} {r1 r2 r3 r4 : ResultVar} {v1 v2 v3 v4 : Value}
theorem results0 (h : fn.results = #[]) : (results fn tmps).run P w = .ok (.tuple #[]) w := by simp [results, h]
theorem results1 (h : fn.results = #[r1]) (h1 : resRun P tmps w r1 v1) : (results fn tmps).run P w = .ok v1 w := by
  cases r1 <;> simp only [resRun] at h1
  · simp [results, h, h1]
  · obtain ⟨ad, h1, h2⟩ := h1; simp [results, h, h1, h2, asAddr]
theorem results2 (h : fn.results = #[r1, r2]) (h1 : resRun P tmps w r1 v1) (h2 : resRun P tmps w r2 v2) : (results fn tmps).run P w = .ok (.tuple #[v1, v2]) w := by
  cases r1 <;> cases r2 <;> simp only [resRun] at h1 h2
  · simp [results, h, h1, h2]
  · obtain ⟨a2, h2, g2⟩ := h2; simp [results, h, h1, h2, g2, asAddr]
  · obtain ⟨a1, h1, g1⟩ := h1; simp [results, h, h1, g1, h2, asAddr]
  · obtain ⟨a1, h1, g1⟩ := h1; obtain ⟨a2, h2, g2⟩ := h2; simp [results, h, h1, g1, h2, g2, asAddr]
theorem results3 (h : fn.results = #[r1, r2, r3]) (h1 : resRun P tmps w r1 v1) (h2 : resRun P tmps w r2 v2) (h3 : resRun P tmps w r3 v3) : (results fn tmps).run P w = .ok (.tuple #[v1, v2, v3]) w := by
  cases r1 <;> cases r2 <;> cases r3 <;> simp only [resRun] at h1 h2 h3 <;>
    (try obtain ⟨a1, h1, g1⟩ := h1) <;> (try obtain ⟨a2, h2, g2⟩ := h2) <;> (try obtain ⟨a3, h3, g3⟩ := h3) <;> simp [results, asAddr, *]
theorem results4 (h : fn.results = #[r1, r2, r3, r4]) (h1 : resRun P tmps w r1 v1) (h2 : resRun P tmps w r2 v2) (h3 : resRun P tmps w r3 v3) (h4 : resRun P tmps w r4 v4) : (results fn tmps).run P w = .ok (.tuple #[v1, v2, v3, v4]) w := by
  cases r1 <;> cases r2 <;> cases r3 <;> cases r4 <;> simp only [resRun] at h1 h2 h3 h4 <;>
    (try obtain ⟨a1, h1, g1⟩ := h1) <;> (try obtain ⟨a2, h2, g2⟩ := h2) <;> (try obtain ⟨a3, h3, g3⟩ := h3) <;> (try obtain ⟨a4, h4, g4⟩ := h4) <;> simp [results, asAddr, *]
end
end Go.Fw
