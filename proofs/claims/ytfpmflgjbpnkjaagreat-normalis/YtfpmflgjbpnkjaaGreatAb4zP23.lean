/-
  Check and Field of typing: the reference.
-/
import Derived.Test.YtfpmflgjbpnkjaaGreatAb4zP22
import Derived.Test.YtfpmflgjbpnkjaaGreatAb4zP11
import Derived.Test.YtfpmflgjbpnkjaaGreatAbRefs
set_option linter.unusedVariables false
set_option linter.unusedSimpArgs false
set_option linter.unusedSectionVars false
namespace Go.Ab.Pz
open Go.Ab.Pol
set_option maxRecDepth 100000
set_option maxHeartbeats 1000000
theorem all_nes (x:Bs):∀ l:List Sc,(l.all fun y=>!decide (x=y.name))=!decide (x∈l.map Sc.name)
 | []=>rfl
 | y :: l=>by
  have ih:=all_nes x l
  simp only [List.all_cons,ih,List.map_cons]
  by_cases e:x=y.name
  ·simp [e]
  ·simp [e]
theorem l95 (l:Sl Sc) (hlen:l.l.length≤1000) (p:Po) (h:Heap) (pre:List Sc) (x:Sc) (r:List Sc) (hl:l.l=pre++x :: r) :
  (x.name∉pre.map Sc.name→∃ env,(mu K).code (.loopAt 1 [1,2,8,9] l63_1) ⟨[(1,l.avS Sc.av),(2,.ptr (h.length,0) 0),(8,.int .i64 (pre.length:Int)),(9,.int .i64 0)],[.box 26 false p.av] :: h⟩=some (.exit 4,⟨env,[.box 26 false p.av] :: h⟩)∧get env 1=l.avS Sc.av∧get env 2=.ptr (h.length,0) 0∧get env 8=.int .i64 (pre.length:Int)) ∧
  (x.name∈pre.map Sc.name→∃ env,(mu K).code (.loopAt 1 [1,2,8,9] l63_1) ⟨[(1,l.avS Sc.av),(2,.ptr (h.length,0) 0),(8,.int .i64 (pre.length:Int)),(9,.int .i64 0)],[.box 26 false p.av] :: h⟩=some (.ret,⟨env,[.box 26 false p.av] :: h⟩)∧get env 4=.int .i64 8):=by
 obtain ⟨h1,h2,w1⟩:=idx_facts hl (by omega)
 have hix:=fun (k:IntKind)=>iaF_sl (av:=Sc.av) (sz:=2) (s:=l) (k:=k) (j:=(pre.length:Int)) (x:=x) (by omega) (by simpa using h2) rfl
 have key:=loop_iter (K:=K) (n:=1) (live:=[1,2,8,9]) (a:=l63_1) (fun (_:Unit) (y:Sc)=>if (!decide (x.name=y.name))=true then (.inl ():Unit ⊕ Unit) else .inr ())
  (fun pr _=>⟨[(1,l.avS Sc.av),(2,.ptr (h.length,0) 0),(8,.int .i64 (pre.length:Int)),(9,.int .i64 (pr.length:Int))],[.box 26 false p.av] :: h⟩) (fun _ _=>True)
  (fun b o=>∃ env,o=some (.exit 4,⟨env,[.box 26 false p.av] :: h⟩)∧get env 1=l.avS Sc.av∧get env 2=.ptr (h.length,0) 0∧get env 8=.int .i64 (pre.length:Int))
  (fun _ o=>∃ env,o=some (.ret,⟨env,[.box 26 false p.av] :: h⟩)∧get env 4=.int .i64 8) pre
  (fun pr y rr b hl' _=>by
   have hl2:l.l=pr++y :: (rr++x :: r):=by rw [hl,hl'];simp
   obtain ⟨g1,g2,v1⟩:=idx_facts hl2 (by omega)
   have hiy:=fun (k:IntKind)=>iaF_sl (av:=Sc.av) (sz:=2) (s:=l) (k:=k) (j:=(pr.length:Int)) (x:=y) (by omega) (by simpa using g2) rfl
   have lt:((pr.length:Int) < (pre.length:Int))=True:=by rw [hl'];simp;omega
   rw [loop_go]
   generalize (mu K).code (.loopAt 1 [1,2,8,9] l63_1)=F
   clear hl hl' hl2
   by_cases q:x.name=y.name
   ·have d:(x.name=y.name)=True:=by simp [q]
    simp [l63_1,KL,lendF,hix,hiy,v1,lt,d]
   ·simp [l63_1,KL,lendF,hix,hiy,v1,lt,q])
  (fun b _=>by
   rw [loop_go]
   generalize (mu K).code (.loopAt 1 [1,2,8,9] l63_1)=F
   simp [l63_1]) () trivial
 simp only [List.length_nil,Int.natCast_zero] at key
 have e:=all_nes x.name pre
 refine ⟨fun q=>?_,fun q=>?_⟩
 ·rw [decide_eq_false q] at e
  rw [(iter_all (fun y:Sc=>!decide (x.name=y.name)) pre).1 (by simpa using e)] at key
  exact key.2
 ·rw [decide_eq_true q] at e
  rw [(iter_all (fun y:Sc=>!decide (x.name=y.name)) pre).2 (by simpa using e)] at key
  exact key
theorem f63 (p:Po) (hp:Sz p) (l:Sl Sc) (hl:okL l) (h:Heap):(mu K).fn 63 [p.av,l.avS Sc.av] h=some (.val (.int .i64 (readyE p l.l)) h):=by
 have k25:=fun h=>f53 p hp h
 have key0:=loop_iter (K:=K) (n:=1) (live:=[1,2,6]) (a:=l63_0) scF
  (fun pre b=>⟨[(1,l.avS Sc.av),(2,.ptr (h.length,0) 0),(6,.int .i64 (pre.length:Int))],[.box 26 false p.av] :: h⟩) (fun _ _=>True)
  (fun b o=>∃ env,o=some (.exit 0,⟨env,[.box 26 false p.av] :: h⟩)∧get env 1=l.avS Sc.av∧get env 2=.ptr (h.length,0) 0)
  (fun e o=>∃ env R,o=some (.ret,⟨env,R :: h⟩)∧get env 4=.int .i64 e) l.l
  (fun pre x r b hl' hb=>by
   obtain ⟨h1,h2,w1⟩:=idx_facts hl' (by have:=hl.len;omega)
   have hix:=fun (k:IntKind)=>iaF_sl (av:=Sc.av) (sz:=2) (s:=l) (k:=k) (j:=(pre.length:Int)) (x:=x) (by omega) (by simpa using h2) rfl
   have k:=fun h=>f109 x (hl.sc x (by rw [hl'];simp)) h
   rw [loop_go]
   generalize (mu K).code (.loopAt 1 [1,2,6] l63_0)=F
   clear hl'
   unfold scF
   by_cases e:schE x=0
   ·simp [l63_0,KL,lendF,h1,hix,w1,k,e]
   ·simp [l63_0,KL,lendF,h1,hix,w1,k,e])
  (fun b _=>by
   rw [loop_go]
   generalize (mu K).code (.loopAt 1 [1,2,6] l63_0)=F
   simp [l63_0]) () trivial
 have key1:=loop_iter (K:=K) (n:=1) (live:=[1,2,8]) (a:=l63_2) (fun (met:List Bs) (s:Sc)=>twF met s.name)
  (fun pre b=>⟨[(1,l.avS Sc.av),(2,.ptr (h.length,0) 0),(8,.int .i64 (pre.length:Int))],[.box 26 false p.av] :: h⟩) (fun pre met=>met=pre.map Sc.name)
  (fun b o=>∃ env,o=some (.exit 2,⟨env,[.box 26 false p.av] :: h⟩)∧get env 1=l.avS Sc.av∧get env 2=.ptr (h.length,0) 0)
  (fun e o=>∃ env R,o=some (.ret,⟨env,R :: h⟩)∧get env 4=.int .i64 8) l.l
  (fun pre x r b hl' hb=>by
   obtain ⟨h1,h2,w1⟩:=idx_facts hl' (by have:=hl.len;omega)
   obtain ⟨i1,i2⟩:=l95 l hl.len p h pre x r hl'
   rw [←hb] at i1 i2
   rw [loop_go]
   generalize (mu K).code (.loopAt 1 [1,2,8] l63_2)=F
   unfold twF
   have hb2:b++[x.name]=(pre++[x]).map Sc.name:=by rw [hb];simp
   clear hl' hb
   by_cases e:x.name∈b
   ·obtain ⟨env,k,g⟩:=i2 e
    simp [l63_2,KL,lendF,h1,w1,k,g,e]
   ·obtain ⟨env,k,g,g3,g4⟩:=i1 e
    simp [l63_2,KL,lendF,h1,w1,k,g,g3,g4,e,hb2])
  (fun b _=>by
   rw [loop_go]
   generalize (mu K).code (.loopAt 1 [1,2,8] l63_2)=F
   simp [l63_2]) [] rfl
 have key2:=loop_iter (K:=K) (n:=1) (live:=[1,2,10]) (a:=l63_3) (fun (_:Unit) (u:Us)=>if (scN l.l u.sc).isSome=true then (.inl ():Unit ⊕ Unit) else .inr ())
  (fun pre b=>⟨[(1,l.avS Sc.av),(2,.ptr (h.length,0) 0),(10,.int .i64 (pre.length:Int))],[.box 26 false p.av] :: h⟩) (fun _ _=>True)
  (fun b o=>∃ env,o=some (.exit 6,⟨env,[.box 26 false p.av] :: h⟩))
  (fun e o=>∃ env R,o=some (.ret,⟨env,R :: h⟩)∧get env 4=.int .i64 9) p.uses.l
  (fun pre x r b hl' hb=>by
   obtain ⟨h1,h2,w1⟩:=idx_facts hl' (by have:=hp.uses.1;omega)
   have hix:=fun (k:IntKind)=>iaF_sl (av:=Us.av) (sz:=2) (s:=p.uses) (k:=k) (j:=(pre.length:Int)) (x:=x) (by omega) (by simpa using h2) rfl
   have k:=fun h=>f110 l hl.len x.sc h
   rw [loop_go]
   generalize (mu K).code (.loopAt 1 [1,2,10] l63_3)=F
   have hsc:∃ a c,scAV (scN l.l x.sc)=.agg [.str a,c]∧c.cells=[c]∧(∀ p,c.refOk p=true)∧∀ p h,c.view p h=some (c,h):=by
    cases scN l.l x.sc with
    | none=>exact ⟨_,_,rfl,by simp,by simp,by simp⟩
    | some s=>exact ⟨_,_,rfl,by simp,by simp,by simp⟩
   obtain ⟨a,c,e1,e2,e3,e4⟩:=hsc
   rw [e1] at k
   clear hl'
   cases e:(scN l.l x.sc).isSome
   ·rw [e] at k
    simp [l63_3,KL,lendF,h1,hix,w1,k,e2,e3,e4]
   ·rw [e] at k
    simp [l63_3,KL,lendF,h1,hix,w1,k,e2,e3,e4])
  (fun b _=>by
   rw [loop_go]
   generalize (mu K).code (.loopAt 1 [1,2,10] l63_3)=F
   simp [l63_3]) () trivial
 simp only [List.length_nil,Int.natCast_zero] at key0 key1 key2
 rw [iter_sc] at key0
 rw [iter_map (fun met s=>twF met s) Sc.name] at key1
 rw [fn_go (KX _ _ _) fn63 rfl (by simp [c63])]
 unfold readyE
 by_cases c0:chk p=0
 case neg=>
  rw [if_pos c0]
  simp [c63,KL,lendF,k25,c0]
 rw [if_neg (by simp [c0])]
 by_cases c1:firstS l.l=0
 case neg=>
  rw [if_neg c1] at key0
  rw [if_pos c1]
  obtain ⟨env,R,k,g4⟩:=key0
  simp [c63,KL,lendF,k25,c0,k,g4]
 rw [if_neg (by simp [c1])]
 rw [if_pos c1] at key0
 obtain ⟨_,env0,a0,a1,a2⟩:=key0
 obtain ⟨t1,t2⟩:=iter_tw (l.l.map Sc.name) [] (by simp)
 simp only [List.nil_append] at t1 t2
 by_cases c2:(l.l.map Sc.name).Nodup
 case neg=>
  rw [t2 c2] at key1
  rw [if_pos c2]
  obtain ⟨env,R,k,g4⟩:=key1
  simp [c63,KL,lendF,k25,c0,a0,a1,a2,k,g4]
 rw [if_neg (by simp [c2])]
 rw [t1 c2] at key1
 obtain ⟨_,env1,b0,b1,b2⟩:=key1
 cases c3:p.uses.l.all (fun u=>(scN l.l u.sc).isSome)
 ·rw [(iter_all (fun u:Us=>(scN l.l u.sc).isSome) p.uses.l).2 c3] at key2
  obtain ⟨env,R,k,g4⟩:=key2
  simp [c63,KL,lendF,k25,c0,a0,a1,a2,b0,b1,b2,k,g4]
 ·rw [(iter_all (fun u:Us=>(scN l.l u.sc).isSome) p.uses.l).1 c3] at key2
  obtain ⟨_,env,k⟩:=key2
  simp [c63,KL,lendF,k25,c0,a0,a1,a2,b0,b1,b2,k]
def ceF (f:Nd→Option VT) (_:Unit) (s:Tr):Unit ⊕ (Int×Int):=if (condE f s).2=0 then .inl () else .inr (condE f s)
theorem iter_ce (f:Nd→Option VT):∀ l:List Tr,iter (ceF f) () l=if (firstE (l.map (condE f))).2=0 then .inl () else .inr (firstE (l.map (condE f)))
 | []=>rfl
 | s :: l=>by
  have ih:=iter_ce f l
  simp only [iter,ceF,List.map_cons,firstE]
  by_cases e:(condE f s).2=0
  ·simp [e,ih]
  ·simp [e]
theorem f42 (p:Po) (hp:Sz p) (l:Sl Sc) (hl:okL l) (t:Tr) (ht:chk p=0→Pol.Good p t) (h:Heap) :
  (mu K).fn 42 [p.av,l.avS Sc.av] h=some (.val (.tup [.int .i64 (typT p l.l t).1,.int .i64 (typT p l.l t).2]) h):=by
 have k95:=fun h=>f63 p hp l hl h
 have k76:=fun h=>f65 p hp h
 have q1:=beq_avS _ beq_us p.uses
 have q2:=beq_avS _ beq_rf p.reveal
 have q3:=beq_avS _ beq_nd p.nodes
 have q4:=beq_avS _ beq_sc l
 have key:=loop_iter (K:=K) (n:=1) (live:=[1,2,7]) (a:=l42_0) (fun (_:Unit) (r:Rf)=>if (findF p.uses.l l.l r).isSome=true then (.inl ():Unit ⊕ Unit) else .inr ())
  (fun pre _=>⟨[(1,l.avS Sc.av),(2,.ptr (h.length,0) 0),(7,.int .i64 (pre.length:Int))],[.box 26 false p.av] :: h⟩) (fun _ _=>True)
  (fun _ o=>∃ env,o=some (.exit 0,⟨env,[.box 26 false p.av] :: h⟩)∧get env 1=l.avS Sc.av∧get env 2=.ptr (h.length,0) 0)
  (fun q o=>∃ env R,o=some (.ret,⟨env,R :: h⟩)∧get env 4=.int .i64 0∧get env 5=.int .i64 9) p.reveal.l
  (fun pre x r b hl' _=>by
   obtain ⟨h1,h2,w1⟩:=idx_facts hl' (by have:=hp.reveal.1;omega)
   have hix:=fun (k:IntKind)=>iaF_sl (av:=Rf.av) (sz:=2) (s:=p.reveal) (k:=k) (j:=(pre.length:Int)) (x:=x) (by omega) (by simpa using h2) rfl
   have k:=fun h=>f64 p hp.uses.1 l hl x h
   rw [loop_go]
   generalize (mu K).code (.loopAt 1 [1,2,7] l42_0)=F
   clear hl'
   cases e:findF p.uses.l l.l x with
   | none=>
    rw [e] at k
    simp only [plAV,fdAV] at k
    simp [l42_0,KL,lendF,h1,hix,w1,k,q1,q2,q3,q4]
   | some q=>
    obtain ⟨u,k',f⟩:=q
    rw [e] at k
    simp only [plAV,fdAV] at k
    simp [l42_0,KL,lendF,h1,hix,w1,k,q1,q2,q3,q4])
  (fun b _=>by
   rw [loop_go]
   generalize (mu K).code (.loopAt 1 [1,2,7] l42_0)=F
   simp [l42_0]) () trivial
 simp only [List.length_nil,Int.natCast_zero] at key
 rw [fn_go (KX _ _ _) fn42 rfl (by simp [c42])]
 unfold typT
 by_cases hr:readyE p l.l=0
 case neg=>
  rw [if_pos hr]
  simp [c42,KL,lendF,k95,hr]
 rw [if_neg (by simp [hr])]
 have rp:=ready_of hr
 have g:=ht rp.chk
 cases c3:p.reveal.l.all (fun r=>(findF p.uses.l l.l r).isSome)
 ·rw [(iter_all (fun r:Rf=>(findF p.uses.l l.l r).isSome) p.reveal.l).2 c3] at key
  obtain ⟨env,R,k,g4,g5⟩:=key
  simp [c42,KL,lendF,k95,hr,k,g4,g5]
 rw [(iter_all (fun r:Rf=>(findF p.uses.l l.l r).isSome) p.reveal.l).1 c3] at key
 obtain ⟨_,env,k,g1,g2⟩:=key
 have hv:=vis_of t (ns:=p.nodes.l) (f:=32) (c:=true) (seen:=[]) g.isT g.wf g.dep (by simpa using ints_nodup.2 g.nodup)
 rw [g.root] at hv
 have k76:∀ h,(mu K).fn 65 [p.av] h=some (.val (.lst (t.subs.map fun (s:Tr)=>iV (s.i:Int))) h):=fun h=>by
  rw [k76 h,hv,pre_subs]
  simp only [List.nil_append,List.map_map]
  rfl
 have hlen:t.subs.length≤1000:=by
  have:=g.all
  rw [pre_subs,List.length_map] at this
  have:=hp.nodes.1
  omega
 have key1:=loop_iter (K:=K) (n:=1) (live:=[1,2,11,12]) (a:=l42_1) (ceF (vtOf p.uses.l l.l))
  (fun pre _=>⟨[(1,l.avS Sc.av),(2,.ptr (h.length,0) 0),(11,.lst (t.subs.map fun (s:Tr)=>iV (s.i:Int))),(12,.int .i64 (pre.length:Int))],[.box 26 false p.av] :: h⟩) (fun _ _=>True)
  (fun _ o=>∃ env,o=some (.exit 2,⟨env,[.box 26 false p.av] :: h⟩))
  (fun q o=>∃ env R,o=some (.ret,⟨env,R :: h⟩)∧get env 4=.int .i64 q.1∧get env 5=.int .i64 q.2) t.subs
  (fun pre x r b hl' _=>by
   obtain ⟨h1,h2,w1⟩:=idx_facts hl' (by omega)
   have hxm:x∈t.subs:=by rw [hl'];simp
   have hxt:=subs_isT g.isT x hxm
   have hxw:=subs_wf g.wf x hxm
   have hxn:p.nodes.l[x.i]?=some x.n:=by
    cases x with
    | nd a b c=>exact hxt.1
   have hix:=fun (k:IntKind)=>iaF_lst (sz:=1) (l:=t.subs.map fun (s:Tr)=>iV (s.i:Int)) (k:=k) (j:=(pre.length:Int)) (v:=iV (x.i:Int)) (by omega) (by rw [Int.toNat_natCast,List.getElem?_map,h2];rfl) rfl
   have hiy:=fun (k:IntKind)=>iaF_sl (av:=Nd.av) (sz:=6) (s:=p.nodes) (k:=k) (j:=(x.i:Int)) (x:=x.n) (by omega) (by simpa using hxn) rfl
   have hll:(t.subs.map fun (s:Tr)=>iV (s.i:Int)).length=t.subs.length:=by simp
   have qb:AV.beqs (t.subs.map fun (s:Tr)=>iV (s.i:Int)) (t.subs.map fun (s:Tr)=>iV (s.i:Int))=true:=beqs_map (fun (s:Tr)=>iV (s.i:Int)) (fun s=>beq_iV _) _
   rw [loop_go]
   generalize (mu K).code (.loopAt 1 [1,2,11,12] l42_1)=F
   generalize (t.subs.map fun (s:Tr)=>iV (s.i:Int))=M at *
   clear hl'
   unfold ceF
   by_cases hk:x.n.k=6∨x.n.k=7∨x.n.k=8
   case neg=>
    have e0:condE (vtOf p.uses.l l.l) x=(0,0):=by
     cases x with
     | nd a b c=>
      have hk:¬ (b.k=6∨b.k=7∨b.k=8):=hk
      simp only [condE]
      rw [if_neg hk]
    rw [e0]
    simp only [not_or] at hk
    obtain ⟨c6,c7,c8⟩:=hk
    simp [l42_1,KL,lendF,h1,hix,hiy,hll,w1,c6,c7,c8,q1,q2,q3,q4,qb]
   have k97:=fun h=>f66 p hp l hl x hxt hxw hk h
   generalize condE (vtOf p.uses.l l.l) x=q at *
   obtain ⟨a,e⟩:=q
   simp only at k97 ⊢
   by_cases e0:e=0
   ·subst e0
    rcases hk with c | c | c<;>simp [l42_1,KL,lendF,h1,hix,hiy,hll,w1,c,k97,q1,q2,q3,q4,qb]
   ·rcases hk with c | c | c<;>simp [l42_1,KL,lendF,h1,hix,hiy,hll,w1,c,k97,e0,q1,q2,q3,q4,qb])
  (fun b _=>by
   have hll:(t.subs.map fun (s:Tr)=>iV (s.i:Int)).length=t.subs.length:=by simp
   rw [loop_go]
   generalize (mu K).code (.loopAt 1 [1,2,11,12] l42_1)=F
   generalize (t.subs.map fun (s:Tr)=>iV (s.i:Int))=M at *
   simp [l42_1,hll]) () trivial
 simp only [List.length_nil,Int.natCast_zero] at key1
 rw [iter_ce,←visit_first] at key1
 rw [if_neg (by simp)]
 generalize (t.subs.map fun (s:Tr)=>iV (s.i:Int))=M at *
 by_cases e1:(visitT (vtOf p.uses.l l.l) t).2=0
 ·rw [if_pos e1] at key1
  obtain ⟨_,env1,kk⟩:=key1
  have e2:visitT (vtOf p.uses.l l.l) t=(0,0):=by
   rw [visit_first] at e1 ⊢
   exact (firstE_zero e1).1
  rw [e2]
  simp [c42,KL,lendF,k95,hr,k,g1,g2,k76,kk]
 ·rw [if_neg e1] at key1
  obtain ⟨env1,R1,kk,g4,g5⟩:=key1
  simp [c42,KL,lendF,k95,hr,k,g1,g2,k76,kk,g4,g5]
end Go.Ab.Pz
