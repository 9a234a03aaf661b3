/-
  The examples of chapter 44, by the kernel.
-/
import Derived.Test.YtfpmflgjbpnkjaaAb41
import Derived.Test.YtfpmflgjbpnkjaaAbUse
set_option linter.unusedVariables false
namespace Go.Ab.Pl
set_option maxRecDepth 100000
theorem awake44_run (f:List Blk):(evF K 90).fn 37 [] [f]=some (.val (.bool true) [f]):=by kernel_rfl
theorem awake44 (f:List Blk):(mu K).fn 37 [] [f]=some (.val (.bool true) [f]):=(evF_le K 90).fn _ _ _ _ (awake44_run f)
end Go.Ab.Pl
