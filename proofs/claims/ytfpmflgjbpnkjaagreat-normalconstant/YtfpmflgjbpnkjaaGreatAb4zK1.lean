/-
  A closed fact of the program: whether a call may enter.
-/
import Derived.Test.YtfpmflgjbpnkjaaGreatChecked
import Derived.Test.YtfpmflgjbpnkjaaGreatRows
import Derived.JoinedOf
import Derived.Handed
import Derived.KernelRfl
namespace Go.Proofs.YtfpmflgjbpnkjaaGreat
theorem mayEnterF:Tryz.prog.mayEnter=true:=by kernel_rfl
end Go.Proofs.YtfpmflgjbpnkjaaGreat
