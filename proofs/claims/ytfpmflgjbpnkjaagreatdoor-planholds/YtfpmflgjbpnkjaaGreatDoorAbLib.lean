/-
  Small laws for contracts: a memory with one place set; bits.
-/
import Derived.Test.YtfpmflgjbpnkjaaGreatDoorAbUse
set_option linter.unusedVariables false
set_option linter.unusedSimpArgs false
namespace Go.Ab
attribute [simp] fillC fillS appTo AV.pure AV.beq AV.beqs sized cut cutE Blk.refOk get_set hset_length matV matL matK matKs mat1
end Go.Ab
