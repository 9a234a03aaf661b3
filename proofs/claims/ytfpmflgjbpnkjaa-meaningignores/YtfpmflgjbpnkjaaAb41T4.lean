/-
  The examples of chapter 45, by the kernel: Holds.
-/
import Derived.Test.YtfpmflgjbpnkjaaAb41T1
import Derived.Test.YtfpmflgjbpnkjaaAbUse
set_option linter.unusedVariables false
namespace Go.Ab.Pl
open Go.Ab.Pol
set_option maxRecDepth 100000
theorem holds18_1_run (g f:List Blk):(evF K 90).fn 54 [exP.av,exS.avS Sc.av,(exX 18 1).avS fun s=>s.avS iV] [g,f]=some (.val (.tup [.bool true,iV 0]) [g,f]):=by kernel_rfl
theorem holds18_1 (g f:List Blk):(mu K).fn 54 [exP.av,exS.avS Sc.av,(exX 18 1).avS fun s=>s.avS iV] [g,f]=some (.val (.tup [.bool true,iV 0]) [g,f]):=(evF_le K 90).fn _ _ _ _ (holds18_1_run g f)
theorem holds18_0_run (g f:List Blk):(evF K 90).fn 54 [exP.av,exS.avS Sc.av,(exX 18 0).avS fun s=>s.avS iV] [g,f]=some (.val (.tup [.bool false,iV 0]) [g,f]):=by kernel_rfl
theorem holds18_0 (g f:List Blk):(mu K).fn 54 [exP.av,exS.avS Sc.av,(exX 18 0).avS fun s=>s.avS iV] [g,f]=some (.val (.tup [.bool false,iV 0]) [g,f]):=(evF_le K 90).fn _ _ _ _ (holds18_0_run g f)
theorem holds17_1_run (g f:List Blk):(evF K 90).fn 54 [exP.av,exS.avS Sc.av,(exX 17 1).avS fun s=>s.avS iV] [g,f]=some (.val (.tup [.bool false,iV 0]) [g,f]):=by kernel_rfl
theorem holds17_1 (g f:List Blk):(mu K).fn 54 [exP.av,exS.avS Sc.av,(exX 17 1).avS fun s=>s.avS iV] [g,f]=some (.val (.tup [.bool false,iV 0]) [g,f]):=(evF_le K 90).fn _ _ _ _ (holds17_1_run g f)
theorem holds130_0_run (g f:List Blk):(evF K 90).fn 54 [exP.av,exS.avS Sc.av,(exX 130 0).avS fun s=>s.avS iV] [g,f]=some (.val (.tup [.bool false,iV 2]) [g,f]):=by kernel_rfl
theorem holds130_0 (g f:List Blk):(mu K).fn 54 [exP.av,exS.avS Sc.av,(exX 130 0).avS fun s=>s.avS iV] [g,f]=some (.val (.tup [.bool false,iV 2]) [g,f]):=(evF_le K 90).fn _ _ _ _ (holds130_0_run g f)
end Go.Ab.Pl
