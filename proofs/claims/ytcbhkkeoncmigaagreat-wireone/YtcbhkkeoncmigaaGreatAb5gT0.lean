/-
  The chapter's examples, by the kernel.
-/
import Derived.Test.YtcbhkkeoncmigaaGreatAb5g
import Derived.Test.YtcbhkkeoncmigaaGreatAbUse
set_option linter.unusedVariables false
namespace Go.Ab.WireG
set_option maxRecDepth 100000
theorem awake_run (f : List Blk) : (evF K 80).fn 7 [] [f] = some (.val (.bool true) [f]) := by kernel_rfl
theorem awake (f : List Blk) : (mu K).fn 7 [] [f] = some (.val (.bool true) [f]) := (evF_le K 80).fn _ _ _ _ (awake_run f)
end Go.Ab.WireG
