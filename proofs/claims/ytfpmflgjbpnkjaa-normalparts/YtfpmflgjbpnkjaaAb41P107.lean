/-
  The statement NormalParts on the evaluator: its loops.
-/
import Derived.Test.YtfpmflgjbpnkjaaAb41R6
set_option linter.unusedVariables false
set_option linter.unusedSimpArgs false
set_option linter.unusedSectionVars false
namespace Go.Ab.Pl
open Go.Ab.Pol
set_option maxRecDepth 100000
set_option maxHeartbeats 4000000
def KidOk (ns:List Nd) (n:Nd):Prop:=∀ v∈n.kids.l,∃ x,0≤v∧v < (ns.length:Int)∧ns[v.toNat]?=some x∧(x.k=5→¬ (n.num=(n.kids.l.length:Int)∧x.num=(x.kids.l.length:Int))∧¬ (n.num=1∧x.num=1))
section
variable (p q:Po) (h:Heap)
theorem l20_0_ok (n:Nd) (hn:n.kids.l.length≤1000) (hk:KidOk q.nodes.l n) (i:Int) :
  ∃ env,(mu K2).code (.loopAt 3 [2,5,7,8,9] l20_0) ⟨[(2,.ptr (h.length,0) 0),(5,.ptr (h.length,1) 0),(7,iV i),(8,.ptr (h.length,2) 0),(9,iV 0)],[.box 26 false p.av,.box 26 false q.av,.box 45 false n.av] :: h⟩ =
   some (.exit 3,⟨env,[.box 26 false p.av,.box 26 false q.av,.box 45 false n.av] :: h⟩)∧get env 2=.ptr (h.length,0) 0∧get env 5=.ptr (h.length,1) 0∧get env 7=iV i:=by
 have key:=loop_iter (K:=K2) (n:=3) (live:=[2,5,7,8,9]) (a:=l20_0) (ρ:=Unit) (fun (_:Unit) (x:Int)=>(.inl ():Unit ⊕ Unit))
  (fun pre _=>⟨[(2,.ptr (h.length,0) 0),(5,.ptr (h.length,1) 0),(7,iV i),(8,.ptr (h.length,2) 0),(9,iV (pre.length:Int))],[.box 26 false p.av,.box 26 false q.av,.box 45 false n.av] :: h⟩) (fun _ _=>True)
  (fun _ o=>∃ env,o=some (.exit 3,⟨env,[.box 26 false p.av,.box 26 false q.av,.box 45 false n.av] :: h⟩)∧get env 2=.ptr (h.length,0) 0∧get env 5=.ptr (h.length,1) 0∧get env 7=iV i)
  (fun _ _=>False) n.kids.l
  (fun pre v r b hl' hb=>by
   obtain ⟨h1,h2,w1⟩:=idx_facts hl' (by omega)
   obtain ⟨x,v0,v1,hx,hno⟩:=hk v (List.mem_of_getElem? h2)
   have hix:=fun (k:IntKind)=>iaF_sl (av:=iV) (sz:=1) (s:=n.kids) (k:=k) (j:=(pre.length:Int)) (x:=v) (by omega) (by simpa using h2) rfl
   have hiy:=fun (k:IntKind)=>iaF_sl (av:=Nd.av) (sz:=6) (s:=q.nodes) (k:=k) (j:=v) (x:=x) v0 hx rfl
   have qx:=beq_avS _ beq_iV x.kids
   have qn:=beq_avS _ beq_iV n.kids
   have qq:=beq_avS _ beq_nd q.nodes
   have v0':(v < 0)=False:=eq_false (by omega)
   have v1':((q.nodes.l.length:Int)≤v)=False:=eq_false (by omega)
   refine ⟨fun b' e=>⟨trivial,?_⟩,fun _ e=>by cases e⟩
   rw [loop_go]
   generalize (mu K2).code (.loopAt 3 [2,5,7,8,9] l20_0)=F
   clear hl'
   by_cases d5:x.k=5
   ·obtain ⟨n1,n2⟩:=hno d5
    have d5':(x.k=5)=True:=eq_true d5
    by_cases a1:n.num=(n.kids.l.length:Int)
    ·have b1:(x.num=(x.kids.l.length:Int))=False:=eq_false (fun e=>n1 ⟨a1,e⟩)
     have a1':(n.num=(n.kids.l.length:Int))=True:=eq_true a1
     by_cases a2:n.num=1
     ·have b2:(x.num=1)=False:=eq_false (fun e=>n2 ⟨a2,e⟩)
      have a2':(n.num=1)=True:=eq_true a2
      simp [l20_0,KL2,lendF,h1,hix,hiy,v0',v1',w1,qx,qn,qq,d5',a1',b1,a2',b2]
     ·simp [l20_0,KL2,lendF,h1,hix,hiy,v0',v1',w1,qx,qn,qq,d5',a1',b1,a2]
    ·by_cases a2:n.num=1
     ·have b2:(x.num=1)=False:=eq_false (fun e=>n2 ⟨a2,e⟩)
      have a2':(n.num=1)=True:=eq_true a2
      simp [l20_0,KL2,lendF,h1,hix,hiy,v0',v1',w1,qx,qn,qq,d5',a1,a2',b2]
     ·simp [l20_0,KL2,lendF,h1,hix,hiy,v0',v1',w1,qx,qn,qq,d5',a1,a2]
   ·simp [l20_0,KL2,lendF,h1,hix,hiy,v0',v1',w1,qx,qn,qq,d5])
  (fun b _=>by
   rw [loop_go]
   generalize (mu K2).code (.loopAt 3 [2,5,7,8,9] l20_0)=F
   simp [l20_0]) () trivial
 have e:iter (fun (_:Unit) (x:Int)=>(.inl ():Unit ⊕ Unit)) () n.kids.l=.inl ():=by
  generalize n.kids.l=l
  induction l with
  | nil=>rfl
  | cons x l ih=>simpa [iter] using ih
 rw [e] at key
 simpa using key.2
theorem l20_1_ok (hq:q.nodes.l.length≤1000) (hN:∀ (i:Nat) (n:Nd),q.nodes.l[i]?=some n→n.kids.l.length≤1000∧n.k≠2∧n.k≠3∧n.k≠4∧n.k≠8∧((n.k=0∨n.k=1)→i=0)∧(n.k=5→2≤n.kids.l.length∧KidOk q.nodes.l n)) :
  ∃ env,(mu K2).code (.loopAt 2 [2,5,7] l20_1) ⟨[(2,.ptr (h.length,0) 0),(5,.ptr (h.length,1) 0),(7,iV 0)],[.box 26 false p.av,.box 26 false q.av] :: h⟩ =
   some (.exit 0,⟨env,[.box 26 false p.av,.box 26 false q.av] :: h⟩)∧get env 2=.ptr (h.length,0) 0∧get env 5=.ptr (h.length,1) 0:=by
 have key:=loop_iter (K:=K2) (n:=2) (live:=[2,5,7]) (a:=l20_1) (ρ:=Unit) (fun (_:Unit) (x:Nd)=>(.inl ():Unit ⊕ Unit))
  (fun pre _=>⟨[(2,.ptr (h.length,0) 0),(5,.ptr (h.length,1) 0),(7,iV (pre.length:Int))],[.box 26 false p.av,.box 26 false q.av] :: h⟩) (fun _ _=>True)
  (fun _ o=>∃ env,o=some (.exit 0,⟨env,[.box 26 false p.av,.box 26 false q.av] :: h⟩)∧get env 2=.ptr (h.length,0) 0∧get env 5=.ptr (h.length,1) 0)
  (fun _ _=>False) q.nodes.l
  (fun pre n r b hl' hb=>by
   obtain ⟨h1,h2,w1⟩:=idx_facts hl' (by omega)
   obtain ⟨k0,k2,k3,k4,k8,k01,k5⟩:=hN pre.length n h2
   have hix:=fun (k:IntKind)=>iaF_sl (av:=Nd.av) (sz:=6) (s:=q.nodes) (k:=k) (j:=(pre.length:Int)) (x:=n) (by omega) (by simpa using h2) rfl
   have qx:=beq_avS _ beq_iV n.kids
   refine ⟨fun b' e=>⟨trivial,?_⟩,fun _ e=>by cases e⟩
   rw [loop_go]
   by_cases d5:n.k=5
   ·obtain ⟨l2,hk⟩:=k5 d5
    obtain ⟨env,k,g2,g5,g7⟩:=l20_0_ok p q h n k0 hk (pre.length:Int)
    have d5':(n.k=5)=True:=eq_true d5
    have d0:(n.k=0)=False:=eq_false (by omega)
    have d1:(n.k=1)=False:=eq_false (by omega)
    have l2':((n.kids.l.length:Int) < 2)=False:=eq_false (by omega)
    generalize (mu K2).code (.loopAt 2 [2,5,7] l20_1)=F
    clear hl'
    simp [l20_1,KL2,lendF,h1,hix,w1,qx,d0,d1,k2,k3,k4,k8,d5',l2',k,g2,g5,g7]
   ·generalize (mu K2).code (.loopAt 2 [2,5,7] l20_1)=F
    by_cases d0:n.k=0
    ·have hp:=k01 (.inl d0)
     have d0':(n.k=0)=True:=eq_true d0
     rw [hp] at h1 hix w1
     have z1:(0 < q.nodes.l.length)=True:=eq_true (by simpa using h1)
     simp only [Int.natCast_zero,Int.zero_add] at hix w1
     have hpl:pre.length=0:=hp
     clear hl'
     simp [l20_1,KL2,lendF,z1,hpl,hix,w1,qx,d0']
    by_cases d1:n.k=1
    ·have hp:=k01 (.inr d1)
     have d1':(n.k=1)=True:=eq_true d1
     rw [hp] at h1 hix w1
     have z1:(0 < q.nodes.l.length)=True:=eq_true (by simpa using h1)
     simp only [Int.natCast_zero,Int.zero_add] at hix w1
     have hpl:pre.length=0:=hp
     clear hl'
     simp [l20_1,KL2,lendF,z1,hpl,hix,w1,qx,d0,d1']
    ·clear hl'
     simp [l20_1,KL2,lendF,h1,hix,w1,qx,d0,d1,k2,k3,k4,k8,d5])
  (fun b _=>by
   rw [loop_go]
   generalize (mu K2).code (.loopAt 2 [2,5,7] l20_1)=F
   simp [l20_1]) () trivial
 have e:iter (fun (_:Unit) (x:Nd)=>(.inl ():Unit ⊕ Unit)) () q.nodes.l=.inl ():=by
  generalize q.nodes.l=l
  induction l with
  | nil=>rfl
  | cons x l ih=>simpa [iter] using ih
 rw [e] at key
 simpa using key.2
theorem iter_or {α:Type} (g:α→Bool):∀ (l:List α) (b:Bool),iter (fun (b:Bool) (x:α)=>(.inl (b || g x):Bool ⊕ Unit)) b l=.inl (b || l.any g)
 | [],b=>by simp [iter]
 | x :: l,b=>by simp [iter,iter_or g l,Bool.or_assoc]
theorem l20_2_ok (L M:List Rf) (hL:L.length≤1000000) (i:Nat) (r:Rf) (hr:M[i]?=some r) (F:List Blk) (x y:AV) :
  ∃ env,(mu K2).code (.loopAt F.length [2,5,11,12,13,14,15] l20_2) ⟨[(2,x),(5,y),(11,.lst (L.map Rf.av)),(12,.lst (M.map Rf.av)),(13,iV (i:Int)),(14,.bool false),(15,iV 0)],F :: h⟩ =
   some (.exit 7,⟨env,F :: h⟩)∧get env 2=x∧get env 5=y∧get env 11=.lst (L.map Rf.av)∧get env 12=.lst (M.map Rf.av)∧get env 13=iV (i:Int)∧get env 14=.bool (L.any fun s=>decide (s=r)):=by
 have hiM:=fun (k:IntKind)=>iaF_lst (sz:=2) (l:=M.map Rf.av) (k:=k) (j:=(i:Int)) (v:=r.av) (by omega) (by simp [hr]) rfl
 have key:=loop_iter (K:=K2) (n:=F.length) (live:=[2,5,11,12,13,14,15]) (a:=l20_2) (ρ:=Unit) (fun (b:Bool) (s:Rf)=>.inl (b || decide (s=r)))
  (fun pre b=>⟨[(2,x),(5,y),(11,.lst (L.map Rf.av)),(12,.lst (M.map Rf.av)),(13,iV (i:Int)),(14,.bool b),(15,iV (pre.length:Int))],F :: h⟩) (fun _ _=>True)
  (fun b o=>∃ env,o=some (.exit 7,⟨env,F :: h⟩)∧get env 2=x∧get env 5=y∧get env 11=.lst (L.map Rf.av)∧get env 12=.lst (M.map Rf.av)∧get env 13=iV (i:Int)∧get env 14=.bool b)
  (fun _ _=>False) L
  (fun pre s rr b hl' hb=>by
   obtain ⟨h1,h2,w1⟩:=idx_facts hl' (by omega)
   have hix:=fun (k:IntKind)=>iaF_lst (sz:=2) (l:=L.map Rf.av) (k:=k) (j:=(pre.length:Int)) (v:=s.av) (by omega) (by simp [h2]) rfl
   have hLl:(L.map Rf.av).length=L.length:=by simp
   refine ⟨fun b' e=>⟨trivial,?_⟩,fun _ e=>by cases e⟩
   injection e with e
   subst e
   rw [loop_go]
   generalize (mu K2).code (.loopAt F.length [2,5,11,12,13,14,15] l20_2)=FF
   generalize L.map Rf.av=LA at *
   generalize M.map Rf.av=MA at *
   clear hl'
   obtain ⟨s1,s2⟩:=s
   obtain ⟨r1,r2⟩:=r
   cases b
   ·by_cases e1:s1=r1
    ·simp [l20_2,KL2,lendF,h1,hLl,hix,hiM,w1,eqFs,eqF,e1]
    ·simp [l20_2,KL2,lendF,h1,hLl,hix,hiM,w1,eqFs,eqF,e1]
   ·simp [l20_2,KL2,lendF,h1,hLl,w1])
  (fun b _=>by
   have hLl:(L.map Rf.av).length=L.length:=by simp
   rw [loop_go]
   generalize (mu K2).code (.loopAt F.length [2,5,11,12,13,14,15] l20_2)=FF
   generalize L.map Rf.av=LA at *
   generalize M.map Rf.av=MA at *
   simp [l20_2,hLl]) false trivial
 rw [iter_or] at key
 simpa using key.2
theorem l20_3_ok (L M:List Rf) (hL:L.length≤1000000) (hM:M.length≤1000000) (hs:∀ r∈M,r∈L) (F:List Blk) (x y:AV) :
  ∃ env,(mu K2).code (.loopAt F.length [2,5,11,12,13] l20_3) ⟨[(2,x),(5,y),(11,.lst (L.map Rf.av)),(12,.lst (M.map Rf.av)),(13,iV 0)],F :: h⟩ =
   some (.exit 5,⟨env,F :: h⟩)∧get env 2=x∧get env 5=y:=by
 have key:=loop_iter (K:=K2) (n:=F.length) (live:=[2,5,11,12,13]) (a:=l20_3) (ρ:=Unit) (fun (_:Unit) (s:Rf)=>(.inl ():Unit ⊕ Unit))
  (fun pre _=>⟨[(2,x),(5,y),(11,.lst (L.map Rf.av)),(12,.lst (M.map Rf.av)),(13,iV (pre.length:Int))],F :: h⟩) (fun _ _=>True)
  (fun _ o=>∃ env,o=some (.exit 5,⟨env,F :: h⟩)∧get env 2=x∧get env 5=y)
  (fun _ _=>False) M
  (fun pre r rr b hl' hb=>by
   obtain ⟨h1,h2,w1⟩:=idx_facts hl' (by omega)
   have hMl:(M.map Rf.av).length=M.length:=by simp
   obtain ⟨env,k,g2,g5,g11,g12,g13,g14⟩:=l20_2_ok h L M hL pre.length r h2 F x y
   have hany:(L.any fun s=>decide (s=r))=true:=List.any_eq_true.2 ⟨r,hs r (List.mem_of_getElem? h2),by simp⟩
   rw [hany] at g14
   refine ⟨fun b' e=>⟨trivial,?_⟩,fun _ e=>by cases e⟩
   rw [loop_go]
   generalize (mu K2).code (.loopAt F.length [2,5,11,12,13] l20_3)=FF
   generalize L.map Rf.av=LA at *
   generalize M.map Rf.av=MA at *
   clear hl'
   simp [l20_3,KL2,lendF,h1,hMl,w1,k,g2,g5,g11,g12,g13,g14])
  (fun b _=>by
   have hMl:(M.map Rf.av).length=M.length:=by simp
   rw [loop_go]
   generalize (mu K2).code (.loopAt F.length [2,5,11,12,13] l20_3)=FF
   generalize L.map Rf.av=LA at *
   generalize M.map Rf.av=MA at *
   simp [l20_3,hMl]) () trivial
 have e:iter (fun (_:Unit) (x:Rf)=>(.inl ():Unit ⊕ Unit)) () M=.inl ():=by
  generalize M=l
  induction l with
  | nil=>rfl
  | cons x l ih=>simpa [iter] using ih
 rw [e] at key
 simpa using key.2
end
end Go.Ab.Pl
