/-
  The examples of chapter 47, by the kernel.
-/
import Derived.Test.YtfpmflgjbpnkjaaGreatDoorAb4dT2
set_option linter.unusedVariables false
set_option linter.unusedSimpArgs false
namespace Go.Ab.Pn
open Go.Ab Go.Ab.Pol
set_option maxRecDepth 100000
theorem awake47_run (f:List Blk):(evF K4 100).fn 11 [] [f]=some (.val (.bool true) [f]):=by kernel_rfl
theorem awake47 (f:List Blk):(mu K4).fn 11 [] [f]=some (.val (.bool true) [f]):=(evF_le K4 100).fn _ _ _ _ (awake47_run f)
end Go.Ab.Pn
