/-
  The reference's check of a policy, whole.
-/
import Derived.Test.YtfpmflgjbpnkjaaAb41P10
set_option linter.unusedVariables false
set_option linter.unusedSimpArgs false
set_option linter.unusedSectionVars false
namespace Go.Ab.Pl
open Go.Ab.Pol
set_option maxRecDepth 100000
set_option maxHeartbeats 4000000
end Go.Ab.Pl
