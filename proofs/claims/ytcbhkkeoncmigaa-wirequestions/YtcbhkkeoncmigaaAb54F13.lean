/-
  The reference's reading: a length.
-/
import Derived.Test.YtcbhkkeoncmigaaAb54F12
set_option linter.unusedVariables false
set_option linter.unusedSimpArgs false
namespace Go.Ab.Wire
attribute [local simp] evC evOps evD
set_option maxRecDepth 100000
set_option maxHeartbeats 1000000

/-- The reference's state ahead of the loop over a length's bytes. -/
abbrev S36 (s : List UInt8) (h : Heap) (e d k n p : Nat) (b : Nat) : St :=
  { env := [(0, .str s), (1, .int .i64 (p : Int)), (2, .int .i64 (e : Int)), (3, .int .i64 (d : Int)), (8, .ptr (h.length, 0) 0), (11, .ptr (h.length, 1) 0), (12, .int .i64 (n : Int)), (13, .int .i64 ((128 ^ k : Nat) : Int)), (14, .int .i64 (k : Int))], h := G35 h.length b :: h }

end Go.Ab.Wire
