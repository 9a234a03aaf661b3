/-
  The examples of chapter 45, by the kernel: Search, 10.
-/
import Derived.Test.YtfpmflgjbpnkjaaAb41T1
import Derived.Test.YtfpmflgjbpnkjaaAbUse
set_option linter.unusedVariables false
namespace Go.Ab.Pl
open Go.Ab.Pol
set_option maxRecDepth 100000
theorem search10_run (g f:List Blk):(evF K 90).fn 56 [exP.av,exS.avS Sc.av,iV 10] [g,f]=some (.val (.tup [.nils,.bool false,iV 0]) [g,f]):=by kernel_rfl
theorem search10 (g f:List Blk):(mu K).fn 56 [exP.av,exS.avS Sc.av,iV 10] [g,f]=some (.val (.tup [.nils,.bool false,iV 0]) [g,f]):=(evF_le K 90).fn _ _ _ _ (search10_run g f)
end Go.Ab.Pl
