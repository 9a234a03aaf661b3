/-
  The reference's check of a policy.
-/
import Derived.Test.YtfpmflgjbpnkjaaGreatDoorAb4dP9
import Derived.Test.YtfpmflgjbpnkjaaGreatDoorAb4dP6
set_option linter.unusedVariables false
set_option linter.unusedSimpArgs false
set_option linter.unusedSectionVars false
namespace Go.Ab.Pn
open Go.Ab.Pol
set_option maxRecDepth 100000
set_option maxHeartbeats 2000000
theorem beqs_map {α:Type} (av:α→AV) (h:∀ x,(av x).beq (av x)=true):∀ l:List α,AV.beqs (l.map av) (l.map av)=true
 | []=>by simp [AV.beqs]
 | x :: l=>by simp [AV.beqs,h x,beqs_map av h l]
theorem beq_avS {α:Type} (av:α→AV) (h:∀ x,(av x).beq (av x)=true) (s:Sl α):(s.avS av).beq (s.avS av)=true:=by
 obtain ⟨nl,l⟩:=s
 cases l with
 | nil=>cases nl<;>rfl
 | cons x l=>
  have:=beqs_map av h (x :: l)
  simpa [Sl.avS,AV.beq] using this
theorem beq_iV (n:Int):(iV n).beq (iV n)=true:=by simp [AV.beq]
/- The loops of the check. -/
end Go.Ab.Pn
