/-
  Read, with its recover; Decode.
-/
import Derived.Test.YtcbhkkeoncmigaaAb54F11
set_option linter.unusedVariables false
set_option linter.unusedSimpArgs false
namespace Go.Ab.Wire
attribute [local simp] evC evOps evD
set_option maxRecDepth 100000
set_option maxHeartbeats 1000000

abbrev zIt : It := .mk 0 [] [] true []
/-- What Read returns. -/
def rdS (s : List UInt8) : It × Nat × Int :=
  if 65536 < s.length then (zIt, 0, 5) else match rd s (s.length + 1) 0 s.length 0 with
    | .ok (i, q) => (i, q, 0)
    | .error c => (zIt, 0, c)
abbrev fr18 (s : List UInt8) : List Blk := [.box 78 false zit, .box 3 false (.int .i64 0), .box 25 false (.int .i64 0), .box 176 false (.agg [.str s, .int .i64 0])]
theorem f106 (s : List UInt8) (h : Heap) : (mu K).fn 106 [.str s] h = some (.val (.tup [(rdS s).1.av, .int .i64 ((rdS s).2.1 : Int), .int .i64 (rdS s).2.2]) h) := by
  rw [step_mu_fn]
  unfold rdS
  by_cases h1 : 65536 < s.length
  · have h2 : (65536 : Int) < (s.length : Int) := by omega
    rw [if_pos h1]
    simp [step, stepFn, KX, fn106, c106, evB, h2, It.av, lv, It.avs]
  · rw [if_neg h1]
    have h2 : ¬ (65536 : Int) < (s.length : Int) := by omega
    have hd : dom (fr18 s :: h) (h.length, 3) := by simp [dom, hget]
    have := f120 s (by omega) (h.length, 3) (fr18 s :: h) hd (s.length + 1) (by omega)
    cases hr : rd s (s.length + 1) 0 s.length 0 with
    | ok x =>
      obtain ⟨i, q⟩ := x
      rw [hr] at this
      simp [P35, RH, fr18] at this
      simp [step, stepFn, KX, KL, fn106, c106, evB, h2, this, finD, evDef, dfn119, d119]
    | error c =>
      rw [hr] at this
      obtain ⟨p', this⟩ := this
      simp [RH, fr18] at this
      simp [step, stepFn, KX, KL, fn106, c106, evB, h2, this, finD, evDef, dfn119, d119, It.av, lv, It.avs]
end Go.Ab.Wire
