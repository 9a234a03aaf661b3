/-
  A closed fact of the program: what is lifted.
-/
import Derived.Test.YtfpmflgjbpnkjaaChecked
import Derived.Test.YtfpmflgjbpnkjaaRows
import Derived.JoinedOf
import Derived.Handed
import Derived.KernelRfl
namespace Go.Proofs.Ytfpmflgjbpnkjaa
theorem liftsF:Try.prog.liftsFinal=Rows.typingChecksRow.lifted:=by kernel_rfl
end Go.Proofs.Ytfpmflgjbpnkjaa
