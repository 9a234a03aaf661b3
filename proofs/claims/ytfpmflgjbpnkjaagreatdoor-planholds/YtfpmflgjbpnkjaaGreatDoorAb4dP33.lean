/-
  Same: the program.
-/
import Derived.Test.YtfpmflgjbpnkjaaGreatDoorAb4dP10
import Derived.Test.YtfpmflgjbpnkjaaGreatDoorAb4dP6
import Derived.Test.YtfpmflgjbpnkjaaGreatDoorAbRefs
set_option linter.unusedVariables false
set_option linter.unusedSimpArgs false
set_option linter.unusedSectionVars false
namespace Go.Ab.Pn
open Go.Ab.Pol
set_option maxRecDepth 100000
set_option maxHeartbeats 1000000
theorem eq_rf (x y:Rf):eqFs [.str,.str] x.cs y.cs=some (decide (x=y)):=by
 obtain ⟨a,b⟩:=x
 obtain ⟨c,d⟩:=y
 simp only [Rf.cs,eqFs,eqF]
 congr 1
 rw [Bool.eq_iff_iff]
 simp
end Go.Ab.Pn
