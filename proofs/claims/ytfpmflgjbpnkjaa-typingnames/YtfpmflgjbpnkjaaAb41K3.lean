/-
  A closed fact of the program: how it was made.
-/
import Derived.Test.YtfpmflgjbpnkjaaChecked
import Derived.Test.YtfpmflgjbpnkjaaRows
import Derived.JoinedOf
import Derived.Handed
import Derived.KernelRfl
namespace Go.Proofs.Ytfpmflgjbpnkjaa
theorem makeF:Try.prog.make=some Rows.typingChecksRow.make:=by kernel_rfl
end Go.Proofs.Ytfpmflgjbpnkjaa
