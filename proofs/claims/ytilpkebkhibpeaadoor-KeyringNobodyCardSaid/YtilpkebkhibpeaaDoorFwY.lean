/- A part of the code that is a scope of its own, and leaves it by no goto. -/
import Derived.Test.YtilpkebkhibpeaaDoorFwW
import Derived.Scope
namespace Go.Fw
set_option linter.all false
open Go Go.RowKit
variable {P : Program} {Q : Exit → Act → World → Prop} {n : Nat} {L : Slots} {S : World → Prop}
theorem cw_scope {c : Code} (h : CW P c (Exit.noGoto Q) n L S) : CW P (.scope c) Q n L S := fun a w hf hs => wp_scope_straight (h a w hf hs)
theorem ew_scope (h : EW Q .normal n L S) : EW (Exit.noGoto Q) .normal n L S := h
theorem ew_scope_ret (h : EW Q .ret n L S) : EW (Exit.noGoto Q) .ret n L S := h
theorem ew_scope_exit {id : Nat} (h : EW Q (.exit id) n L S) : EW (Exit.noGoto Q) (.exit id) n L S := h
end Go.Fw
