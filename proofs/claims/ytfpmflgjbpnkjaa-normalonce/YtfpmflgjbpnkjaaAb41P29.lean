/-
  Tidy: the program.
-/
import Derived.Test.YtfpmflgjbpnkjaaAb41P28
import Derived.Test.YtfpmflgjbpnkjaaAb41P10
import Derived.Test.YtfpmflgjbpnkjaaAb41P6
set_option linter.unusedVariables false
set_option linter.unusedSimpArgs false
set_option linter.unusedSectionVars false
namespace Go.Ab.Pl
open Go.Ab.Pol
set_option maxRecDepth 100000
set_option maxHeartbeats 2000000
/- Numbers by which nodes are found. -/
def numG (k:Nat):List Nat→List (AV×AV)
 | []=>[]
 | x :: l=>(iV (x:Int),iV (k:Int)) :: numG (k+1) l
theorem look_num (x:Nat):∀ (l:List Nat) (k:Nat),x∈l→lookK (.one .int) (iV (x:Int)) (numG k l)=some (some (iV ((k+l.idxOf x:Nat):Int)))
 | [],k,h=>by simp at h
 | y :: l,k,h=>by
  simp only [numG,lookK,eqK,eqF]
  by_cases e:x=y
  ·subst e
   simp
  ·have h':x∈l:=by simpa [e] using h
   have ih:=look_num x l (k+1) h'
   have e2:¬ (x:Int)=(y:Int):=by omega
   have e3:(y :: l).idxOf x=l.idxOf x+1:=by
    have q:(y == x)=false:=by simp;omega
    rw [List.idxOf_cons,q];rfl
   have e4:k+1+l.idxOf x=k+(l.idxOf x+1):=by omega
   simp [e2,ih,e3,e4]
theorem upd_num (x:Nat):∀ (l:List Nat) (k:Nat),x∉l→updK (.one .int) (iV (x:Int)) (iV ((k+l.length:Nat):Int)) (numG k l)=some (numG k (l++[x]))
 | [],k,_=>by simp [numG,updK]
 | y :: l,k,h=>by
  simp only [List.mem_cons,not_or] at h
  have ih:=upd_num x l (k+1) h.2
  have e2:¬ (x:Int)=(y:Int):=by omega
  have e4:k+1+l.length=k+(l.length+1):=by omega
  rw [e4] at ih
  simp only [List.cons_append,numG,updK,eqK,eqF,List.length_cons,if_true,e2,decide_false,ih]
theorem num_refOk (p:Loc→Bool):∀ (l:List Nat) (k:Nat),(numG k l).all (fun x=>x.2.refOk p)=true
 | [],k=>rfl
 | x :: l,k=>by simp only [numG,List.all_cons,num_refOk p l (k+1)];simp
def tidyP (p:Po) (L:List Nat):Po:={ p with nodes:=⟨false,tidyNs p.nodes.l L⟩,root:=0 }
def zPo:Po:=⟨[],⟨true,[]⟩,⟨true,[]⟩,⟨true,[]⟩,0,[],0,[]⟩
def tidyR (p:Po) (L:List Nat):Po×Int:=if chk (tidyP p L)=0 then (tidyP p L,0) else (zPo,chk (tidyP p L))
theorem f80e (h:Heap):(mu K).fn 80 [.lst []] h=some (.val (.lst []) h):=by
 have hX:K.X 80 [.lst []] h=some (.val (.lst []) h):=rfl
 rw [step_mu_fn]
 simp [step,stepFn,hX]
theorem f80n (h:Heap):(mu K).fn 80 [.nils] h=some (.val .nils h):=by
 rw [fn_go (KXc _ _ _ (by decide) (by simp)) fn80 rfl (by simp [c80])]
 simp [c80,KL,lendF]
theorem f80 (s:Sl Us) (hs:s.l.length≤1000) (h:Heap):(mu K).fn 80 [s.avS Us.av] h=some (.val (s.avS Us.av) h):=by
 obtain ⟨nl,l⟩:=s
 cases l with
 | nil=>
  cases nl
  ·exact f80e h
  ·exact f80n h
 | cons x l=>
  have e:Sl.avS Us.av ⟨nl,x :: l⟩=.lst (x.av :: l.map Us.av):=rfl
  simp only [List.length_cons] at hs
  have r1:(l.length+1) * 32≤room:=by unfold room;omega
  have r2:l.length+1≤room:=by unfold room;omega
  rw [e]
  rw [fn_go (KXc _ _ _ (by decide) (by simp)) fn80 rfl (by simp [c80])]
  simp [c80,KL,lendF,r1,r2]
theorem f81e (h:Heap):(mu K).fn 81 [.lst []] h=some (.val (.lst []) h):=by
 have hX:K.X 81 [.lst []] h=some (.val (.lst []) h):=rfl
 rw [step_mu_fn]
 simp [step,stepFn,hX]
theorem f81n (h:Heap):(mu K).fn 81 [.nils] h=some (.val .nils h):=by
 rw [fn_go (KXc _ _ _ (by decide) (by simp)) fn81 rfl (by simp [c81])]
 simp [c81,KL,lendF]
theorem f81 (s:Sl Rf) (hs:s.l.length≤1000) (h:Heap):(mu K).fn 81 [s.avS Rf.av] h=some (.val (s.avS Rf.av) h):=by
 obtain ⟨nl,l⟩:=s
 cases l with
 | nil=>
  cases nl
  ·exact f81e h
  ·exact f81n h
 | cons x l=>
  have e:Sl.avS Rf.av ⟨nl,x :: l⟩=.lst (x.av :: l.map Rf.av):=rfl
  simp only [List.length_cons] at hs
  have r1:(l.length+1) * 32≤room:=by unfold room;omega
  have r2:l.length+1≤room:=by unfold room;omega
  rw [e]
  rw [fn_go (KXc _ _ _ (by decide) (by simp)) fn81 rfl (by simp [c81])]
  simp [c81,KL,lendF,r1,r2]
mutual
theorem kids_pre:∀ (t:Tr),∀ s∈t.subs,∀ k∈s.ks,k.i∈t.pre
 | .nd i n ks,s,hs,k,hk=>by
  simp only [Tr.subs,List.mem_cons] at hs
  rcases hs with rfl | hs
  ·have:k.i∈Tr.pres ks:=by
    rw [pres_flat,List.mem_flatMap]
    exact ⟨k,hk,by cases k;simp [Tr.i,Tr.pre]⟩
   simp [Tr.pre,this]
  ·have:=kids_pres ks s hs k hk
   simp [Tr.pre,this]
theorem kids_pres:∀ (ts:List Tr),∀ s∈Tr.subss ts,∀ k∈s.ks,k.i∈Tr.pres ts
 | [],s,hs,k,hk=>by simp [Tr.subss] at hs
 | t :: ts,s,hs,k,hk=>by
  simp only [Tr.subss,List.mem_append] at hs
  simp only [Tr.pres,List.mem_append]
  rcases hs with hs | hs
  ·exact .inl (kids_pre t s hs k hk)
  ·exact .inr (kids_pres ts s hs k hk)
end
theorem sub_node {ns:List Nd} {t:Tr} (h:IsT ns t):ns[t.i]?=some t.n∧t.n.kids.l=t.ks.map fun k=>(k.i:Int):=by
 cases t with
 | nd i n ks=>exact ⟨h.1,h.2.1⟩
theorem tidy_subs {ns:List Nd} {t:Tr} (h:IsT ns t):tidyNs ns t.pre=t.subs.map fun s=>s.n.mv fun k=>t.pre.idxOf k:=by
 unfold tidyNs
 generalize hr:(fun k=>t.pre.idxOf k)=r
 rw [pre_subs,List.map_map]
 refine List.map_congr_left fun s hs=>?_
 have:=(sub_node (subs_isT h s hs)).1
 simp [List.getD,this]
def arrN (l:List Nd):Blk:=.arr (if l=[] then 0 else 45) (if l=[] then 0 else 6) false (l.map Nd.av)
end Go.Ab.Pl
