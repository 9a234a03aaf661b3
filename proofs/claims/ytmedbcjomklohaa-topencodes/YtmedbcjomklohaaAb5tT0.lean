/-
  The example, by the kernel.
-/
import Derived.Test.YtmedbcjomklohaaAb5t
import Derived.Test.YtmedbcjomklohaaAbUse
set_option linter.unusedVariables false
namespace Go.Ab.WireT
set_option maxRecDepth 100000
theorem awake_run (f:List Blk):(evF K 80).fn 5 [] [f]=some (.val (.bool true) [f]):=by kernel_rfl
theorem awake (f:List Blk):(mu K).fn 5 [] [f]=some (.val (.bool true) [f]):=(evF_le K 80).fn _ _ _ _ (awake_run f)
end Go.Ab.WireT
