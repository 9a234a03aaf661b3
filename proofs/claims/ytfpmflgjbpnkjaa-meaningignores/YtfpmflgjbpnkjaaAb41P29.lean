/-
  Tidy: the program.
-/
import Derived.Test.YtfpmflgjbpnkjaaAb41P10
import Derived.Test.YtfpmflgjbpnkjaaAbRefs
import Derived.Test.YtfpmflgjbpnkjaaAb41P6
set_option linter.unusedVariables false
set_option linter.unusedSimpArgs false
set_option linter.unusedSectionVars false
namespace Go.Ab.Pl
open Go.Ab.Pol
set_option maxRecDepth 100000
set_option maxHeartbeats 2000000
/- Numbers by which nodes are found. -/
mutual
theorem kids_pre:∀ (t:Tr),∀ s∈t.subs,∀ k∈s.ks,k.i∈t.pre
 | .nd i n ks,s,hs,k,hk=>by
  simp only [Tr.subs,List.mem_cons] at hs
  rcases hs with rfl | hs
  ·have:k.i∈Tr.pres ks:=by
    rw [pres_flat,List.mem_flatMap]
    exact ⟨k,hk,by cases k;simp [Tr.i,Tr.pre]⟩
   simp [Tr.pre,this]
  ·have:=kids_pres ks s hs k hk
   simp [Tr.pre,this]
theorem kids_pres:∀ (ts:List Tr),∀ s∈Tr.subss ts,∀ k∈s.ks,k.i∈Tr.pres ts
 | [],s,hs,k,hk=>by simp [Tr.subss] at hs
 | t :: ts,s,hs,k,hk=>by
  simp only [Tr.subss,List.mem_append] at hs
  simp only [Tr.pres,List.mem_append]
  rcases hs with hs | hs
  ·exact .inl (kids_pre t s hs k hk)
  ·exact .inr (kids_pres ts s hs k hk)
end
end Go.Ab.Pl
