/-
  The nodes that are reached: the program.
-/
import Derived.Test.YtfpmflgjbpnkjaaGreatAb4zP10
import Derived.Test.YtfpmflgjbpnkjaaGreatAbRefs
import Derived.Test.YtfpmflgjbpnkjaaGreatAb4zP6
set_option linter.unusedVariables false
set_option linter.unusedSimpArgs false
set_option linter.unusedSectionVars false
namespace Go.Ab.Pz
open Go.Ab.Pol
set_option maxRecDepth 100000
set_option maxHeartbeats 2000000
end Go.Ab.Pz
/-
  Tidy: the program.
-/
namespace Go.Ab.Pz
open Go.Ab.Pol
set_option maxRecDepth 100000
set_option maxHeartbeats 2000000
/- Numbers by which nodes are found. -/
def zPo:Po:=⟨[],⟨true,[]⟩,⟨true,[]⟩,⟨true,[]⟩,0,[],0,[]⟩
theorem f47e (h:Heap):(mu K).fn 47 [.lst []] h=some (.val (.lst []) h):=by
 have hX:K.X 47 [.lst []] h=some (.val (.lst []) h):=rfl
 rw [step_mu_fn]
 simp [step,stepFn,hX]
theorem f47n (h:Heap):(mu K).fn 47 [.nils] h=some (.val .nils h):=by
 rw [fn_go (KXc _ _ _ (by decide) (by simp)) fn47 rfl (by simp [c47])]
 simp [c47,KL,lendF]
theorem f47 (s:Sl Us) (hs:s.l.length≤1000) (h:Heap):(mu K).fn 47 [s.avS Us.av] h=some (.val (s.avS Us.av) h):=by
 obtain ⟨nl,l⟩:=s
 cases l with
 | nil=>
  cases nl
  ·exact f47e h
  ·exact f47n h
 | cons x l=>
  have e:Sl.avS Us.av ⟨nl,x :: l⟩=.lst (x.av :: l.map Us.av):=rfl
  simp only [List.length_cons] at hs
  have r1:(l.length+1) * 32≤room:=by unfold room;omega
  have r2:l.length+1≤room:=by unfold room;omega
  rw [e]
  rw [fn_go (KXc _ _ _ (by decide) (by simp)) fn47 rfl (by simp [c47])]
  simp [c47,KL,lendF,r1,r2]
theorem f48e (h:Heap):(mu K).fn 48 [.lst []] h=some (.val (.lst []) h):=by
 have hX:K.X 48 [.lst []] h=some (.val (.lst []) h):=rfl
 rw [step_mu_fn]
 simp [step,stepFn,hX]
theorem f48n (h:Heap):(mu K).fn 48 [.nils] h=some (.val .nils h):=by
 rw [fn_go (KXc _ _ _ (by decide) (by simp)) fn48 rfl (by simp [c48])]
 simp [c48,KL,lendF]
theorem f48 (s:Sl Rf) (hs:s.l.length≤1000) (h:Heap):(mu K).fn 48 [s.avS Rf.av] h=some (.val (s.avS Rf.av) h):=by
 obtain ⟨nl,l⟩:=s
 cases l with
 | nil=>
  cases nl
  ·exact f48e h
  ·exact f48n h
 | cons x l=>
  have e:Sl.avS Rf.av ⟨nl,x :: l⟩=.lst (x.av :: l.map Rf.av):=rfl
  simp only [List.length_cons] at hs
  have r1:(l.length+1) * 32≤room:=by unfold room;omega
  have r2:l.length+1≤room:=by unfold room;omega
  rw [e]
  rw [fn_go (KXc _ _ _ (by decide) (by simp)) fn48 rfl (by simp [c48])]
  simp [c48,KL,lendF,r1,r2]
theorem sub_node {ns:List Nd} {t:Tr} (h:IsT ns t):ns[t.i]?=some t.n∧t.n.kids.l=t.ks.map fun k=>(k.i:Int):=by
 cases t with
 | nd i n ks=>exact ⟨h.1,h.2.1⟩
end Go.Ab.Pz
