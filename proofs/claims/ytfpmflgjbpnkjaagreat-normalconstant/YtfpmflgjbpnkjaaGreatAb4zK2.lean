/-
  A closed fact of the program: what is lifted.
-/
import Derived.Test.YtfpmflgjbpnkjaaGreatChecked
import Derived.Test.YtfpmflgjbpnkjaaGreatRows
import Derived.JoinedOf
import Derived.Handed
import Derived.KernelRfl
namespace Go.Proofs.YtfpmflgjbpnkjaaGreat
theorem liftsF:Tryz.prog.liftsFinal=Rows.meaningHoldsRow.lifted:=by kernel_rfl
end Go.Proofs.YtfpmflgjbpnkjaaGreat
