/-
  A closed fact of the program: whether a call may enter.
-/
import Derived.Test.YtfpmflgjbpnkjaaChecked
import Derived.Test.YtfpmflgjbpnkjaaRows
import Derived.JoinedOf
import Derived.Handed
import Derived.KernelRfl
namespace Go.Proofs.Ytfpmflgjbpnkjaa
theorem mayEnterF:Try.prog.mayEnter=true:=by kernel_rfl
end Go.Proofs.Ytfpmflgjbpnkjaa
