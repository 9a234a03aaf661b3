/-
  The nodes of a policy: the reference's visit.
-/
import Derived.Test.YtfpmflgjbpnkjaaGreatDoorAb4dP6
import Derived.Test.YtfpmflgjbpnkjaaGreatDoorAb4dP3
set_option linter.unusedVariables false
set_option linter.unusedSimpArgs false
set_option linter.unusedSectionVars false
namespace Go.Ab.Pn
open Go.Ab.Pol
set_option maxRecDepth 100000
set_option maxHeartbeats 2000000
theorem nodup_le {α:Type} [DecidableEq α]:∀ (s l:List α),s.Nodup→(∀ x∈s,x∈l)→s.length≤l.length
 | [],l,_,_=>Nat.zero_le _
 | a :: s,l,hn,hs=>by
  have h1:=hs a (by simp)
  have hn':=List.nodup_cons.1 hn
  have:=nodup_le s (l.erase a) hn'.2 (fun x hx=>(List.mem_erase_of_ne (fun e=>hn'.1 (by rw [←e];exact hx))).2 (hs x (by simp [hx])))
  rw [List.length_erase_of_mem h1] at this
  have:0 < l.length:=List.length_pos_of_mem h1
  simp only [List.length_cons]
  omega
def In (n:Nat) (seen:List Int):Prop:=seen.Nodup∧∀ x∈seen,0≤x∧x < (n:Int)
theorem In.len {n:Nat} {seen:List Int} (h:In n seen):seen.length≤n:=by
 have:=nodup_le seen ((List.range n).map fun (j:Nat)=>(j:Int)) h.1 (fun x hx=>by
  obtain ⟨h0,h1⟩:=h.2 x hx
  simp only [List.mem_map,List.mem_range]
  exact ⟨x.toNat,by omega,by omega⟩)
 simpa using this
theorem In.snoc {n:Nat} {seen:List Int} {i:Int} (h:In n seen) (h0:0≤i) (h1:i < (n:Int)) (h2:i∉seen):In n (seen++[i]):=by
 refine ⟨?_,?_⟩
 ·rw [List.nodup_append]
  refine ⟨h.1,by simp,?_⟩
  intro a ha b hb e
  simp only [List.mem_singleton] at hb
  subst hb;subst e
  exact h2 ha
 ·intro x hx
  rcases List.mem_append.1 hx with hx | hx
  ·exact h.2 x hx
  ·simp only [List.mem_singleton] at hx
   subst hx
   exact ⟨h0,h1⟩
def bools (n:Nat) (seen:List Int):List AV:=(List.range n).map fun (j:Nat)=>.bool (decide ((j:Int)∈seen))
@[simp] theorem bools_len (n:Nat) (seen:List Int):(bools n seen).length=n:=by simp [bools]
end Go.Ab.Pn
