/-
  A closed fact of the program: how it was made.
-/
import Derived.Test.YtfpmflgjbpnkjaaGreatChecked
import Derived.Test.YtfpmflgjbpnkjaaGreatRows
import Derived.JoinedOf
import Derived.Handed
import Derived.KernelRfl
namespace Go.Proofs.YtfpmflgjbpnkjaaGreat
theorem makeF:Tryz.prog.make=some Rows.meaningHoldsRow.make:=by kernel_rfl
end Go.Proofs.YtfpmflgjbpnkjaaGreat
