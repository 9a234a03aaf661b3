/-
  The examples of chapter 46, by the kernel: what is its own normal form.
-/
import Derived.Test.YtfpmflgjbpnkjaaGreatAb4zT6
set_option linter.unusedVariables false
set_option linter.unusedSimpArgs false
namespace Go.Ab.Pz
open Go.Ab.Pol
set_option maxRecDepth 100000
theorem run62a (g f:List Blk):(evF K 100).fn 29 [q46.av,sc46.avS Sc.av] [g,f]=some (.val (.bool true) [g,f]):=by kernel_rfl
end Go.Ab.Pz
/-
  The examples of chapter 46, by the kernel: what is not its own normal form.
-/
namespace Go.Ab.Pz
open Go.Ab.Pol
set_option maxRecDepth 100000
theorem run62b (g f:List Blk):(evF K 100).fn 29 [(ex46 2 18).av,sc46.avS Sc.av] [g,f]=some (.val (.bool false) [g,f]):=by kernel_rfl
end Go.Ab.Pz
