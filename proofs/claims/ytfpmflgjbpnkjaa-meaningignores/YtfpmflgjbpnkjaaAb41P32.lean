/-
  Depths: the program and the reference; the sizes that the statements of chapter 41 name.
-/
import Derived.Test.YtfpmflgjbpnkjaaAb41P10
import Derived.Test.YtfpmflgjbpnkjaaAbRefs
set_option linter.unusedVariables false
set_option linter.unusedSimpArgs false
set_option linter.unusedSectionVars false
namespace Go.Ab.Pl
open Go.Ab.Pol
set_option maxRecDepth 100000
set_option maxHeartbeats 1000000
theorem fold_deps:∀ (ks:List Tr) (b:Nat),ks.foldl (fun b k=>max b k.dep) b=max b (Tr.deps ks)
 | [],b=>by simp [Tr.deps]
 | k :: ks,b=>by rw [List.foldl_cons,fold_deps ks];simp only [Tr.deps];omega
theorem max_av (a b:Nat):mmList true (iV (a:Int)) [iV (b:Int)]=some (iV ((max a b:Nat):Int)):=by
 simp only [mmList,if_true]
 by_cases h:(b:Int) > (a:Int)
 ·have e:max a b=b:=by omega
  rw [if_pos h,e]
 ·have e:max a b=a:=by omega
  rw [if_neg h,e]
abbrev FD (p:Po) (o:Heap):Heap:=[.box 26 false p.av,.box 113 false (.fn (.func 77) [] [.ptr (o.length,0) 0,.ptr (o.length,1) 0])] :: o
mutual
theorem f77 (p:Po) (hp:okP p) (o:Heap):∀ (t:Tr),IsT p.nodes.l t→t.dep≤1000→∀ (T:List (List Blk)),
  (mu K).fn 77 [iV (t.i:Int),.ptr (o.length,0) 0,.ptr (o.length,1) 0] (T++FD p o)=some (.val (iV (t.dep:Int)) (T++FD p o))
 | .nd i n ks,⟨hn,hkk,hts⟩,hd,T=>by
  have ih:=f77s p hp o ks hts (by simp only [Tr.dep] at hd;omega)
  have ne:(o.length=T.length+(o.length+1))=False:=by simp;omega
  have hmem:n∈p.nodes.l:=List.mem_of_getElem? hn
  have hkl:=(hp.2 n hmem).2
  have hlk:n.kids.l.length=ks.length:=by rw [hkk];simp
  have hix:=fun (k:IntKind)=>iaF_sl (av:=Nd.av) (sz:=6) (s:=p.nodes) (k:=k) (j:=(i:Int)) (x:=n) (by omega) (by simpa using hn) rfl
  have key:=loop_iter (K:=K) (n:=0) (live:=[2,5,13,14,15]) (a:=l77_0) (ρ:=Unit) (fun (b:Nat) (k:Tr)=>.inl (max b k.dep))
   (fun pre b=>⟨[(2,.ptr (o.length,1) 0),(5,iV (b:Int)),(13,n.kids.avS iV),(14,.int .i64 (n.kids.l.length:Int)),(15,.int .i64 (pre.length:Int))],[] :: (T++FD p o)⟩) (fun _ _=>True)
   (fun b r=>∃ env,r=some (.exit 0,⟨env,[] :: (T++FD p o)⟩)∧get env 5=iV (b:Int)) (fun _ _=>False) ks
   (fun pre x r b hl _=>by
    obtain ⟨h1,h2,w1⟩:=idx_facts hl (by omega)
    have g2:n.kids.l[pre.length]?=some (x.i:Int):=by rw [hkk,List.getElem?_map,h2];rfl
    have hiy:=fun (k:IntKind)=>iaF_sl (av:=iV) (sz:=1) (s:=n.kids) (k:=k) (j:=(pre.length:Int)) (x:=(x.i:Int)) (by omega) (by simpa using g2) rfl
    have k:=ih x (by rw [hl];simp) ([] :: T)
    simp only [List.cons_append] at k
    have mx:=max_av b x.dep
    rw [hlk]
    rw [loop_go]
    generalize (mu K).code (.loopAt 0 [2,5,13,14,15] l77_0)=F
    clear hl
    refine ⟨fun b' e=>⟨trivial,?_⟩,fun _ e=>by cases e⟩
    injection e with e
    subst e
    generalize max b x.dep=m at *
    simp [l77_0,KL,lendF,h1,hiy,w1,k,ne,hget_deep,mx])
   (fun b _=>by
    rw [hlk]
    rw [loop_go]
    generalize (mu K).code (.loopAt 0 [2,5,13,14,15] l77_0)=F
    simp [l77_0]) 0 trivial
  rw [iter_fold,fold_deps,Nat.zero_max] at key
  simp only [List.length_nil,Int.natCast_zero] at key
  obtain ⟨_,env,k,g5⟩:=key
  have w2:IntKind.i64.wrap ((Tr.deps ks:Int)+1)=(Tr.deps ks:Int)+1:=wrap64 (by omega) (by simp only [Tr.dep] at hd;omega)
  rw [fn_go (KX _ _ _) fn77 rfl (by simp [c77])]
  simp only [Tr.i,Tr.dep]
  simp [c77,KL,lendF,ne,hget_deep,hix,k,g5,w2]
theorem f77s (p:Po) (hp:okP p) (o:Heap):∀ (ts:List Tr),IsTs p.nodes.l ts→Tr.deps ts≤1000→∀ t∈ts,∀ (T:List (List Blk)),
  (mu K).fn 77 [iV (t.i:Int),.ptr (o.length,0) 0,.ptr (o.length,1) 0] (T++FD p o)=some (.val (iV (t.dep:Int)) (T++FD p o))
 | [],_,_,t,ht,_=>by simp at ht
 | x :: ts,h,hd,t,ht,T=>by
  simp only [Tr.deps] at hd
  rcases List.mem_cons.1 ht with e | ht
  ·rw [e]
   exact f77 p hp o x h.1 (by omega) T
  ·exact f77s p hp o ts h.2 (by omega) t ht T
end
mutual
theorem f78 (p:Po) (hp:okP p):∀ (t:Tr),IsT p.nodes.l t→t.dep≤1000→∀ (h:Heap),(mu K).fn 78 [p.av,iV (t.i:Int)] h=some (.val (iV (t.dep:Int)) h)
 | .nd i n ks,⟨hn,hkk,hts⟩,hd,h=>by
  have ih:=f78s p hp ks hts (by simp only [Tr.dep] at hd;omega)
  have hmem:n∈p.nodes.l:=List.mem_of_getElem? hn
  have hkl:=(hp.2 n hmem).2
  have hlk:n.kids.l.length=ks.length:=by rw [hkk];simp
  have hix:=fun (k:IntKind)=>iaF_sl (av:=Nd.av) (sz:=6) (s:=p.nodes) (k:=k) (j:=(i:Int)) (x:=n) (by omega) (by simpa using hn) rfl
  have q1:=beq_avS _ beq_us p.uses
  have q2:=beq_avS _ beq_rf p.reveal
  have q3:=beq_avS _ beq_nd p.nodes
  have q4:=beq_avS _ beq_iV n.kids
  have key:=loop_iter (K:=K) (n:=1) (live:=[1,2,5,6]) (a:=l78_0) (ρ:=Unit) (fun (b:Nat) (k:Tr)=>.inl (max b k.dep))
   (fun pre b=>⟨[(1,iV (i:Int)),(2,.ptr (h.length,0) 0),(5,iV (b:Int)),(6,.int .i64 (pre.length:Int))],[.box 26 false p.av] :: h⟩) (fun _ _=>True)
   (fun b r=>∃ env,r=some (.exit 0,⟨env,[.box 26 false p.av] :: h⟩)∧get env 5=iV (b:Int)) (fun _ _=>False) ks
   (fun pre x r b hl _=>by
    obtain ⟨h1,h2,w1⟩:=idx_facts hl (by omega)
    have g2:n.kids.l[pre.length]?=some (x.i:Int):=by rw [hkk,List.getElem?_map,h2];rfl
    have hiy:=fun (k:IntKind)=>iaF_sl (av:=iV) (sz:=1) (s:=n.kids) (k:=k) (j:=(pre.length:Int)) (x:=(x.i:Int)) (by omega) (by simpa using g2) rfl
    have k:=fun h=>ih x (by rw [hl];simp) h
    have mx:=max_av b x.dep
    have h1':((pre.length:Int) < (n.kids.l.length:Int)):=by rw [hlk];exact h1
    rw [loop_go]
    generalize (mu K).code (.loopAt 1 [1,2,5,6] l78_0)=F
    clear hl
    refine ⟨fun b' e=>⟨trivial,?_⟩,fun _ e=>by cases e⟩
    injection e with e
    subst e
    generalize max b x.dep=m at *
    simp [l78_0,KL,lendF,h1',hix,hiy,w1,k,mx,q1,q2,q3,q4])
   (fun b _=>by
    rw [loop_go]
    generalize (mu K).code (.loopAt 1 [1,2,5,6] l78_0)=F
    simp [l78_0,hix,hlk]) 0 trivial
  rw [iter_fold,fold_deps,Nat.zero_max] at key
  simp only [List.length_nil,Int.natCast_zero] at key
  obtain ⟨_,env,k,g5⟩:=key
  have w2:IntKind.i64.wrap ((Tr.deps ks:Int)+1)=(Tr.deps ks:Int)+1:=wrap64 (by omega) (by simp only [Tr.dep] at hd;omega)
  rw [fn_go (KX _ _ _) fn78 rfl (by simp [c78])]
  simp only [Tr.i,Tr.dep]
  simp [c78,KL,lendF,k,g5,w2]
theorem f78s (p:Po) (hp:okP p):∀ (ts:List Tr),IsTs p.nodes.l ts→Tr.deps ts≤1000→∀ t∈ts,∀ (h:Heap),(mu K).fn 78 [p.av,iV (t.i:Int)] h=some (.val (iV (t.dep:Int)) h)
 | [],_,_,t,ht,_=>by simp at ht
 | x :: ts,h,hd,t,ht,H=>by
  simp only [Tr.deps] at hd
  rcases List.mem_cons.1 ht with e | ht
  ·rw [e]
   exact f78 p hp x h.1 (by omega) H
  ·exact f78s p hp ts h.2 (by omega) t ht H
end
end Go.Ab.Pl
