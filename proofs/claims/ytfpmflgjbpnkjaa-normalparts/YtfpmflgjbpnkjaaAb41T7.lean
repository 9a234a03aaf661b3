/-
  The examples of chapter 46, by the kernel: what is its own normal form.
-/
import Derived.Test.YtfpmflgjbpnkjaaAb41T6
set_option linter.unusedVariables false
set_option linter.unusedSimpArgs false
namespace Go.Ab.Pl
open Go.Ab.Pol
set_option maxRecDepth 100000
theorem r62a (g f:List Blk):(evF K 100).fn 62 [q46.av,sc46.avS Sc.av] [g,f]=some (.val (.bool true) [g,f]):=by kernel_rfl
end Go.Ab.Pl
