/-
  The sizes that the statements of chapter 41 name.
-/
import Derived.Test.YtfpmflgjbpnkjaaGreatAb4zP10
import Derived.Test.YtfpmflgjbpnkjaaGreatAb4zA
set_option linter.unusedVariables false
set_option linter.unusedSimpArgs false
set_option linter.unusedSectionVars false
namespace Go.Ab.Pz
open Go.Ab.Pol
set_option maxRecDepth 100000
set_option maxHeartbeats 1000000
def smN (x:Nd):Bool:=decide (x.kids.l.length≤40) && decide (x.nm.length≤60) && decide (x.attr.length≤60)
def smU (x:Us):Bool:=decide (x.al.length≤60) && decide (x.sc.length≤60)
def smR (x:Rf):Bool:=decide (x.al.length≤60) && decide (x.attr.length≤60)
def few41 (p:Po):Bool:=decide (p.name.length≤60) && decide (p.uses.l.length≤8) && decide (p.reveal.l.length≤20) && decide (p.nodes.l.length≤60) && decide (p.scope.length≤60) && decide (p.escrow.length≤60) && p.nodes.l.all smN && p.uses.l.all smU && p.reveal.l.all smR
theorem f32 (p:Po) (h:Heap):(mu K).fn 32 [p.av] h=some (.val (.bool (few41 p)) h):=by
 have q1:=beq_avS _ beq_us p.uses
 have q2:=beq_avS _ beq_rf p.reveal
 have q3:=beq_avS _ beq_nd p.nodes
 rw [fn_go (KX _ _ _) fn32 rfl (by simp [c32])]
 unfold few41
 by_cases c1:p.name.length≤60
 case neg=>
  have d1:((60:Int) < (p.name.length:Int))=True:=by simp;omega
  simp [c32,KL,lendF,c1,d1]
 have d1:((60:Int) < (p.name.length:Int))=False:=by simp;omega
 by_cases c2:p.uses.l.length≤8
 case neg=>
  have d2:((8:Int) < (p.uses.l.length:Int))=True:=by simp;omega
  simp [c32,KL,lendF,c1,d1,c2,d2]
 have d2:((8:Int) < (p.uses.l.length:Int))=False:=by simp;omega
 by_cases c3:p.reveal.l.length≤20
 case neg=>
  have d3:((20:Int) < (p.reveal.l.length:Int))=True:=by simp;omega
  simp [c32,KL,lendF,c1,d1,c2,d2,c3,d3]
 have d3:((20:Int) < (p.reveal.l.length:Int))=False:=by simp;omega
 by_cases c4:p.nodes.l.length≤60
 case neg=>
  have d4:((60:Int) < (p.nodes.l.length:Int))=True:=by simp;omega
  simp [c32,KL,lendF,c1,d1,c2,d2,c3,d3,c4,d4]
 have d4:((60:Int) < (p.nodes.l.length:Int))=False:=by simp;omega
 by_cases c5:p.scope.length≤60
 case neg=>
  have d5:((60:Int) < (p.scope.length:Int))=True:=by simp;omega
  simp [c32,KL,lendF,c1,d1,c2,d2,c3,d3,c4,d4,c5,d5]
 have d5:((60:Int) < (p.scope.length:Int))=False:=by simp;omega
 by_cases c6:p.escrow.length≤60
 case neg=>
  have d6:((60:Int) < (p.escrow.length:Int))=True:=by simp;omega
  simp [c32,KL,lendF,c1,d1,c2,d2,c3,d3,c4,d4,c5,d5,c6,d6]
 have d6:((60:Int) < (p.escrow.length:Int))=False:=by simp;omega
 have key0:=loop_iter (K:=K) (n:=1) (live:=[1,3]) (a:=l32_0) (fun (_:Unit) (x:Nd)=>if smN x=true then (.inl ():Unit ⊕ Unit) else .inr ())
  (fun pre b=>⟨[(1,.ptr (h.length,0) 0),(3,iV (pre.length:Int))],[.box 26 false p.av] :: h⟩) (fun pre b=>True)
  (fun b o=>∃ env,o=some (.exit 0,⟨env,[.box 26 false p.av] :: h⟩)∧get env 1=.ptr (h.length,0) 0) (fun k o=>∃ env R,o=some (.ret,⟨env,R :: h⟩)∧get env 2=.bool false) p.nodes.l
  (fun pre x r b hl hb=>by
   obtain ⟨h1,h2,w1⟩:=idx_facts hl (by omega)
   have hix:=fun (k:IntKind)=>iaF_sl (av:=Nd.av) (sz:=6) (s:=p.nodes) (k:=k) (j:=(pre.length:Int)) (x:=x) (by omega) (by simpa using h2) rfl
   rw [loop_go]
   generalize (mu K).code (.loopAt 1 [1,3] l32_0)=F
   clear hl
   unfold smN
   by_cases e1:x.kids.l.length≤40
   case neg=>
    have v1:((40:Int) < (x.kids.l.length:Int))=True:=by simp;omega
    simp [l32_0,KL,lendF,h1,hix,w1,e1,v1]
   have v1:((40:Int) < (x.kids.l.length:Int))=False:=by simp;omega
   by_cases e2:x.nm.length≤60
   case neg=>
    have v2:((60:Int) < (x.nm.length:Int))=True:=by simp;omega
    simp [l32_0,KL,lendF,h1,hix,w1,e1,v1,e2,v2]
   have v2:((60:Int) < (x.nm.length:Int))=False:=by simp;omega
   by_cases e3:x.attr.length≤60
   case neg=>
    have v3:((60:Int) < (x.attr.length:Int))=True:=by simp;omega
    simp [l32_0,KL,lendF,h1,hix,w1,e1,v1,e2,v2,e3,v3]
   have v3:((60:Int) < (x.attr.length:Int))=False:=by simp;omega
   simp [l32_0,KL,lendF,h1,hix,w1,e1,v1,e2,v2,e3,v3])
  (fun b _=>by
   rw [loop_go]
   generalize (mu K).code (.loopAt 1 [1,3] l32_0)=F
   simp [l32_0]) () trivial
 have key1:=loop_iter (K:=K) (n:=1) (live:=[1,5]) (a:=l32_1) (fun (_:Unit) (x:Us)=>if smU x=true then (.inl ():Unit ⊕ Unit) else .inr ())
  (fun pre b=>⟨[(1,.ptr (h.length,0) 0),(5,iV (pre.length:Int))],[.box 26 false p.av] :: h⟩) (fun pre b=>True)
  (fun b o=>∃ env,o=some (.exit 2,⟨env,[.box 26 false p.av] :: h⟩)∧get env 1=.ptr (h.length,0) 0) (fun k o=>∃ env R,o=some (.ret,⟨env,R :: h⟩)∧get env 2=.bool false) p.uses.l
  (fun pre x r b hl hb=>by
   obtain ⟨h1,h2,w1⟩:=idx_facts hl (by omega)
   have hix:=fun (k:IntKind)=>iaF_sl (av:=Us.av) (sz:=2) (s:=p.uses) (k:=k) (j:=(pre.length:Int)) (x:=x) (by omega) (by simpa using h2) rfl
   rw [loop_go]
   generalize (mu K).code (.loopAt 1 [1,5] l32_1)=F
   clear hl
   unfold smU
   by_cases e2:x.al.length≤60
   case neg=>
    have v2:((60:Int) < (x.al.length:Int))=True:=by simp;omega
    simp [l32_1,KL,lendF,h1,hix,w1,e2,v2,q1]
   have v2:((60:Int) < (x.al.length:Int))=False:=by simp;omega
   by_cases e3:x.sc.length≤60
   case neg=>
    have v3:((60:Int) < (x.sc.length:Int))=True:=by simp;omega
    simp [l32_1,KL,lendF,h1,hix,w1,e2,v2,e3,v3,q1]
   have v3:((60:Int) < (x.sc.length:Int))=False:=by simp;omega
   simp [l32_1,KL,lendF,h1,hix,w1,e2,v2,e3,v3,q1])
  (fun b _=>by
   rw [loop_go]
   generalize (mu K).code (.loopAt 1 [1,5] l32_1)=F
   simp [l32_1]) () trivial
 have key2:=loop_iter (K:=K) (n:=1) (live:=[1,6]) (a:=l32_2) (fun (_:Unit) (x:Rf)=>if smR x=true then (.inl ():Unit ⊕ Unit) else .inr ())
  (fun pre b=>⟨[(1,.ptr (h.length,0) 0),(6,iV (pre.length:Int))],[.box 26 false p.av] :: h⟩) (fun pre b=>True)
  (fun b o=>∃ env,o=some (.exit 4,⟨env,[.box 26 false p.av] :: h⟩)) (fun k o=>∃ env R,o=some (.ret,⟨env,R :: h⟩)∧get env 2=.bool false) p.reveal.l
  (fun pre x r b hl hb=>by
   obtain ⟨h1,h2,w1⟩:=idx_facts hl (by omega)
   have hix:=fun (k:IntKind)=>iaF_sl (av:=Rf.av) (sz:=2) (s:=p.reveal) (k:=k) (j:=(pre.length:Int)) (x:=x) (by omega) (by simpa using h2) rfl
   rw [loop_go]
   generalize (mu K).code (.loopAt 1 [1,6] l32_2)=F
   clear hl
   unfold smR
   by_cases e2:x.al.length≤60
   case neg=>
    have v2:((60:Int) < (x.al.length:Int))=True:=by simp;omega
    simp [l32_2,KL,lendF,h1,hix,w1,e2,v2,q2]
   have v2:((60:Int) < (x.al.length:Int))=False:=by simp;omega
   by_cases e3:x.attr.length≤60
   case neg=>
    have v3:((60:Int) < (x.attr.length:Int))=True:=by simp;omega
    simp [l32_2,KL,lendF,h1,hix,w1,e2,v2,e3,v3,q2]
   have v3:((60:Int) < (x.attr.length:Int))=False:=by simp;omega
   simp [l32_2,KL,lendF,h1,hix,w1,e2,v2,e3,v3,q2])
  (fun b _=>by
   rw [loop_go]
   generalize (mu K).code (.loopAt 1 [1,6] l32_2)=F
   simp [l32_2]) () trivial
 simp only [List.length_nil,Int.natCast_zero] at key0 key1 key2
 cases e0:p.nodes.l.all smN
 ·rw [(iter_all smN p.nodes.l).2 e0] at key0
  obtain ⟨env,R,k,g⟩:=key0
  simp [c32,KL,lendF,c1,d1,c2,d2,c3,d3,c4,d4,c5,d5,c6,d6,k,g]
 rw [(iter_all smN p.nodes.l).1 e0] at key0
 obtain ⟨_,env0,k0,a1⟩:=key0
 cases e1:p.uses.l.all smU
 ·rw [(iter_all smU p.uses.l).2 e1] at key1
  obtain ⟨env,R,k,g⟩:=key1
  simp [c32,KL,lendF,c1,d1,c2,d2,c3,d3,c4,d4,c5,d5,c6,d6,k0,a1,k,g]
 rw [(iter_all smU p.uses.l).1 e1] at key1
 obtain ⟨_,env1,k1,b1⟩:=key1
 cases e2:p.reveal.l.all smR
 ·rw [(iter_all smR p.reveal.l).2 e2] at key2
  obtain ⟨env,R,k,g⟩:=key2
  simp [c32,KL,lendF,c1,d1,c2,d2,c3,d3,c4,d4,c5,d5,c6,d6,k0,a1,k1,b1,k,g]
 ·rw [(iter_all smR p.reveal.l).1 e2] at key2
  obtain ⟨_,env,k⟩:=key2
  simp [c32,KL,lendF,c1,d1,c2,d2,c3,d3,c4,d4,c5,d5,c6,d6,k0,a1,k1,b1,k]
theorem few_sz41 {p:Po} (hp:aPo p) (h:few41 p=true):Sz p:=by
 unfold few41 at h
 simp only [Bool.and_eq_true,decide_eq_true_eq] at h
 obtain ⟨⟨⟨⟨⟨⟨⟨⟨c1,c2⟩,c3⟩,c4⟩,c5⟩,c6⟩,c7⟩,c8⟩,c9⟩:=h
 refine ⟨hp.name,hp.scope,hp.escrow,⟨by omega,fun u hu=>⟨(hp.uses.2 u hu).al,(hp.uses.2 u hu).sc⟩⟩,⟨by omega,fun u hu=>⟨(hp.reveal.2 u hu).al,(hp.reveal.2 u hu).attr⟩⟩,by omega,fun n hn=>⟨⟨(hp.nodes.2 n hn).nm,(hp.nodes.2 n hn).attr⟩,?_⟩⟩
 have:=List.all_eq_true.1 c7 n hn
 unfold smN at this
 simp only [Bool.and_eq_true,decide_eq_true_eq] at this
 omega
end Go.Ab.Pz
