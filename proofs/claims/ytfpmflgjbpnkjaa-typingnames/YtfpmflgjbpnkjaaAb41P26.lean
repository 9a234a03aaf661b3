/-
  The statements of chapter 44 on the evaluator: other orders of the schemas.
-/
import Derived.Test.YtfpmflgjbpnkjaaAb41P25
set_option linter.unusedVariables false
set_option linter.unusedSimpArgs false
set_option linter.unusedSectionVars false
namespace Go.Ab.Pl
open Go.Ab.Pol
set_option maxRecDepth 100000
set_option maxHeartbeats 1000000
theorem fits_of {p:Po} {l:List Sc} {t:Tr} (h:(decide ((typT p l t).1=0) && decide ((typT p l t).2=0))=true):FitP p l t:=by
 simp only [Bool.and_eq_true,decide_eq_true_eq] at h
 exact (fit_of h.2).1
theorem wf_u8 {n:Int} (h:okI .u8 n):0≤n∧n≤255:=by
 have e1:IntKind.u8.min=0:=by decide
 have e2:IntKind.u8.max=255:=by decide
 have h:(Lit.int .u8 n).wf=true:=h
 simp only [Lit.wf,Bool.and_eq_true,decide_eq_true_eq,e1,e2] at h
 exact h
end Go.Ab.Pl
