/-
  Same: the program.
-/
import Derived.Test.YtfpmflgjbpnkjaaGreatAb4zP10
import Derived.Test.YtfpmflgjbpnkjaaGreatAb4zP6
import Derived.Test.YtfpmflgjbpnkjaaGreatAbRefs
import Derived.Test.YtfpmflgjbpnkjaaGreatAb4zP11
set_option linter.unusedVariables false
set_option linter.unusedSimpArgs false
set_option linter.unusedSectionVars false
namespace Go.Ab.Pz
open Go.Ab.Pol
set_option maxRecDepth 100000
set_option maxHeartbeats 1000000
theorem zipAll {α:Type} [DecidableEq α]:∀ (a b:List α),a.length=b.length→(a.zip b).all (fun q=>decide (q.1=q.2))=decide (a=b)
 | [],[],_=>rfl
 | [],_ :: _,h=>by simp at h
 | _ :: _,[],h=>by simp at h
 | x :: a,y :: b,h=>by
  have ih:=zipAll a b (by simpa using h)
  simp only [List.zip_cons_cons,List.all_cons,ih]
  rw [Bool.eq_iff_iff]
  simp
theorem eq_us (x y:Us):eqFs [.str,.str] x.cs y.cs=some (decide (x=y)):=by
 obtain ⟨a,b⟩:=x
 obtain ⟨c,d⟩:=y
 simp only [Us.cs,eqFs,eqF]
 congr 1
 rw [Bool.eq_iff_iff]
 simp
theorem eq_rf (x y:Rf):eqFs [.str,.str] x.cs y.cs=some (decide (x=y)):=by
 obtain ⟨a,b⟩:=x
 obtain ⟨c,d⟩:=y
 simp only [Rf.cs,eqFs,eqF]
 congr 1
 rw [Bool.eq_iff_iff]
 simp
theorem f93 (a b:Sl Us) (ha:a.l.length≤1000) (h:Heap):(mu K).fn 93 [a.avS Us.av,b.avS Us.av] h=some (.val (.bool (decide (a.l=b.l))) h):=by
 rw [fn_go (KX _ _ _) fn93 rfl (by simp [c93])]
 by_cases hlen:a.l.length=b.l.length
 case neg=>
  have e:¬ a.l=b.l:=fun q=>hlen (by rw [q])
  have e2:((a.l.length:Int)=(b.l.length:Int))=False:=by simp;omega
  simp [c93,KL,lendF,e,e2,hlen]
 have e2:((a.l.length:Int)=(b.l.length:Int))=True:=by simp;omega
 have hz:(a.l.zip b.l).length=a.l.length:=by simp [hlen]
 have key:=loop_iter (K:=K) (n:=0) (live:=[0,1,12,13]) (a:=l93_0) (fun (_:Unit) (q:Us×Us)=>if decide (q.1=q.2)=true then (.inl ():Unit ⊕ Unit) else .inr ())
  (fun pre _=>⟨[(0,a.avS Us.av),(1,b.avS Us.av),(12,.int .i64 (a.l.length:Int)),(13,.int .i64 (pre.length:Int))],[] :: h⟩) (fun _ _=>True)
  (fun _ o=>∃ env,o=some (.exit 0,⟨env,[] :: h⟩)) (fun _ o=>∃ env,o=some (.ret,⟨env,[] :: h⟩)∧get env 4=.bool false) (a.l.zip b.l)
  (fun pre q r u hl _=>by
   obtain ⟨x,y⟩:=q
   obtain ⟨h1,h2,w1⟩:=idx_facts hl (by omega)
   rw [hz] at h1
   obtain ⟨g1,g2⟩:=List.getElem?_zip_eq_some.1 h2
   have hix:=fun (k:IntKind)=>iaF_sl (av:=Us.av) (sz:=2) (s:=a) (k:=k) (j:=(pre.length:Int)) (x:=x) (by omega) (by simpa using g1) rfl
   have hiy:=fun (k:IntKind)=>iaF_sl (av:=Us.av) (sz:=2) (s:=b) (k:=k) (j:=(pre.length:Int)) (x:=y) (by omega) (by simpa using g2) rfl
   have qx:=beq_us x
   have qy:=beq_us y
   have qe:=eq_us x y
   rw [loop_go]
   generalize (mu K).code (.loopAt 0 [0,1,12,13] l93_0)=F
   clear hl
   by_cases e:x=y
   ·subst e
    simp [l93_0,KL,lendF,h1,hix,hiy,w1,eqFs,eqF]
   ·rw [decide_eq_false e] at qe
    simp only [Us.cs] at qe
    simp [l93_0,KL,lendF,h1,hix,hiy,w1,e,qe])
  (fun u _=>by
   rw [loop_go]
   generalize (mu K).code (.loopAt 0 [0,1,12,13] l93_0)=F
   simp [l93_0,hz,hlen]) () trivial
 simp only [List.length_nil,Int.natCast_zero] at key
 have ez:=zipAll a.l b.l hlen
 by_cases e:a.l=b.l
 ·rw [decide_eq_true e] at ez
  rw [(iter_all (fun q:Us×Us=>decide (q.1=q.2)) (a.l.zip b.l)).1 ez] at key
  obtain ⟨_,env,k⟩:=key
  have e3:(a.l=b.l)=True:=by simp [e]
  rw [hlen] at k
  simp [c93,KL,lendF,e2,hlen,k,e3]
 ·rw [decide_eq_false e] at ez
  rw [(iter_all (fun q:Us×Us=>decide (q.1=q.2)) (a.l.zip b.l)).2 ez] at key
  obtain ⟨env,k,g⟩:=key
  rw [hlen] at k
  simp [c93,KL,lendF,e2,hlen,k,g,e]
theorem f94 (a b:Sl Rf) (ha:a.l.length≤1000) (h:Heap):(mu K).fn 94 [a.avS Rf.av,b.avS Rf.av] h=some (.val (.bool (decide (a.l=b.l))) h):=by
 rw [fn_go (KX _ _ _) fn94 rfl (by simp [c94])]
 by_cases hlen:a.l.length=b.l.length
 case neg=>
  have e:¬ a.l=b.l:=fun q=>hlen (by rw [q])
  have e2:((a.l.length:Int)=(b.l.length:Int))=False:=by simp;omega
  simp [c94,KL,lendF,e,e2,hlen]
 have e2:((a.l.length:Int)=(b.l.length:Int))=True:=by simp;omega
 have hz:(a.l.zip b.l).length=a.l.length:=by simp [hlen]
 have key:=loop_iter (K:=K) (n:=0) (live:=[0,1,12,13]) (a:=l94_0) (fun (_:Unit) (q:Rf×Rf)=>if decide (q.1=q.2)=true then (.inl ():Unit ⊕ Unit) else .inr ())
  (fun pre _=>⟨[(0,a.avS Rf.av),(1,b.avS Rf.av),(12,.int .i64 (a.l.length:Int)),(13,.int .i64 (pre.length:Int))],[] :: h⟩) (fun _ _=>True)
  (fun _ o=>∃ env,o=some (.exit 0,⟨env,[] :: h⟩)) (fun _ o=>∃ env,o=some (.ret,⟨env,[] :: h⟩)∧get env 4=.bool false) (a.l.zip b.l)
  (fun pre q r u hl _=>by
   obtain ⟨x,y⟩:=q
   obtain ⟨h1,h2,w1⟩:=idx_facts hl (by omega)
   rw [hz] at h1
   obtain ⟨g1,g2⟩:=List.getElem?_zip_eq_some.1 h2
   have hix:=fun (k:IntKind)=>iaF_sl (av:=Rf.av) (sz:=2) (s:=a) (k:=k) (j:=(pre.length:Int)) (x:=x) (by omega) (by simpa using g1) rfl
   have hiy:=fun (k:IntKind)=>iaF_sl (av:=Rf.av) (sz:=2) (s:=b) (k:=k) (j:=(pre.length:Int)) (x:=y) (by omega) (by simpa using g2) rfl
   have qe:=eq_rf x y
   rw [loop_go]
   generalize (mu K).code (.loopAt 0 [0,1,12,13] l94_0)=F
   clear hl
   by_cases e:x=y
   ·subst e
    simp [l94_0,KL,lendF,h1,hix,hiy,w1,eqFs,eqF]
   ·rw [decide_eq_false e] at qe
    simp only [Rf.cs] at qe
    simp [l94_0,KL,lendF,h1,hix,hiy,w1,e,qe])
  (fun u _=>by
   rw [loop_go]
   generalize (mu K).code (.loopAt 0 [0,1,12,13] l94_0)=F
   simp [l94_0,hz,hlen]) () trivial
 simp only [List.length_nil,Int.natCast_zero] at key
 have ez:=zipAll a.l b.l hlen
 by_cases e:a.l=b.l
 ·rw [decide_eq_true e] at ez
  rw [(iter_all (fun q:Rf×Rf=>decide (q.1=q.2)) (a.l.zip b.l)).1 ez] at key
  obtain ⟨_,env,k⟩:=key
  have e3:(a.l=b.l)=True:=by simp [e]
  rw [hlen] at k
  simp [c94,KL,lendF,e2,hlen,k,e3]
 ·rw [decide_eq_false e] at ez
  rw [(iter_all (fun q:Rf×Rf=>decide (q.1=q.2)) (a.l.zip b.l)).2 ez] at key
  obtain ⟨env,k,g⟩:=key
  rw [hlen] at k
  simp [c94,KL,lendF,e2,hlen,k,g,e]
abbrev FSh (a b:Po) (o:Heap):Heap:=[.box 26 false a.av,.box 26 false b.av,.box 158 false (.fn (.func 91) [] [.ptr (o.length,0) 0,.ptr (o.length,1) 0,.ptr (o.length,2) 0])] :: o
theorem f92 (a b:Po) (o:Heap) (m n:Nd) (ks js:List Tr) (hm:m.kids.l=ks.map fun k=>(k.i:Int)) (hn:n.kids.l=js.map fun k=>(k.i:Int)) (hl:m.kids.l.length≤1000)
  (ih:∀ x∈ks,∀ y∈js,∀ T:List (List Blk),(mu K).fn 91 [iV (x.i:Int),iV (y.i:Int),.ptr (o.length,0) 0,.ptr (o.length,1) 0,.ptr (o.length,2) 0] (T++FSh a b o)=some (.val (.bool (sameT x y)) (T++FSh a b o))) (T:List (List Blk)) :
  (mu K).fn 92 [m.kids.avS iV,n.kids.avS iV,.fn (.func 91) [] [.ptr (o.length,0) 0,.ptr (o.length,1) 0,.ptr (o.length,2) 0]] (T++FSh a b o)=some (.val (.bool (sameTs ks js)) (T++FSh a b o)):=by
 have lm:m.kids.l.length=ks.length:=by rw [hm];simp
 have ln:n.kids.l.length=js.length:=by rw [hn];simp
 rw [fn_go (KX _ _ _) fn92 rfl (by simp [c92])]
 by_cases hlen:ks.length=js.length
 case neg=>
  have e2:((ks.length:Int)=(js.length:Int))=False:=by simp;omega
  rw [sameTs_len ks js hlen]
  simp [c92,KL,lendF,lm,ln,e2,hlen]
 have e2:((ks.length:Int)=(js.length:Int))=True:=by simp;omega
 have hz:(ks.zip js).length=ks.length:=by simp [hlen]
 have key:=loop_iter (K:=K) (n:=0) (live:=[1,2,15,16,17]) (a:=l92_0) (fun (_:Unit) (q:Tr×Tr)=>if sameT q.1 q.2=true then (.inl ():Unit ⊕ Unit) else .inr ())
  (fun pre _=>⟨[(1,n.kids.avS iV),(2,.fn (.func 91) [] [.ptr (o.length,0) 0,.ptr (o.length,1) 0,.ptr (o.length,2) 0]),(15,m.kids.avS iV),(16,iV (ks.length:Int)),(17,iV (pre.length:Int))],[] :: (T++FSh a b o)⟩) (fun _ _=>True)
  (fun _ r=>∃ env,r=some (.exit 0,⟨env,[] :: (T++FSh a b o)⟩)) (fun _ r=>∃ env,r=some (.ret,⟨env,[] :: (T++FSh a b o)⟩)∧get env 6=.bool false) (ks.zip js)
  (fun pre q r u hl' _=>by
   obtain ⟨x,y⟩:=q
   obtain ⟨h1,h2,w1⟩:=idx_facts hl' (by omega)
   rw [hz] at h1
   obtain ⟨g1,g2⟩:=List.getElem?_zip_eq_some.1 h2
   have k1:m.kids.l[pre.length]?=some (x.i:Int):=by rw [hm,List.getElem?_map,g1];rfl
   have k2:n.kids.l[pre.length]?=some (y.i:Int):=by rw [hn,List.getElem?_map,g2];rfl
   have hix:=fun (k:IntKind)=>iaF_sl (av:=iV) (sz:=1) (s:=m.kids) (k:=k) (j:=(pre.length:Int)) (x:=(x.i:Int)) (by omega) (by simpa using k1) rfl
   have hiy:=fun (k:IntKind)=>iaF_sl (av:=iV) (sz:=1) (s:=n.kids) (k:=k) (j:=(pre.length:Int)) (x:=(y.i:Int)) (by omega) (by simpa using k2) rfl
   have k:=ih x (List.mem_of_getElem? g1) y (List.mem_of_getElem? g2) ([] :: T)
   simp only [List.cons_append] at k
   rw [loop_go]
   generalize (mu K).code (.loopAt 0 [1,2,15,16,17] l92_0)=F
   clear hl'
   cases e:sameT x y
   ·rw [e] at k
    simp [l92_0,KL,lendF,h1,hix,hiy,w1,k,e]
   ·rw [e] at k
    simp [l92_0,KL,lendF,h1,hix,hiy,w1,k,e])
  (fun u _=>by
   rw [loop_go]
   generalize (mu K).code (.loopAt 0 [1,2,15,16,17] l92_0)=F
   simp [l92_0,hz,hlen]) () trivial
 simp only [List.length_nil,Int.natCast_zero] at key
 rw [sameTs_zip ks js hlen]
 rw [hlen] at key
 cases e:(ks.zip js).all fun q=>sameT q.1 q.2
 ·rw [(iter_all (fun q:Tr×Tr=>sameT q.1 q.2) (ks.zip js)).2 e] at key
  obtain ⟨env,k,g⟩:=key
  simp [c92,KL,lendF,lm,ln,e2,hlen,k,g]
 ·rw [(iter_all (fun q:Tr×Tr=>sameT q.1 q.2) (ks.zip js)).1 e] at key
  obtain ⟨_,env,k⟩:=key
  simp [c92,KL,lendF,lm,ln,e2,hlen,k]
mutual
theorem f91 (a b:Po) (ha:okP a) (o:Heap):∀ (t u:Tr),IsT a.nodes.l t→IsT b.nodes.l u→∀ (T:List (List Blk)),
  (mu K).fn 91 [iV (t.i:Int),iV (u.i:Int),.ptr (o.length,0) 0,.ptr (o.length,1) 0,.ptr (o.length,2) 0] (T++FSh a b o)=some (.val (.bool (sameT t u)) (T++FSh a b o))
 | .nd i m ks,.nd j n js,⟨hm,hmk,hms⟩,⟨hn,hnk,hns⟩,T=>by
  have ih:=f91s a b ha o ks hms
  have ne:(o.length=T.length+(o.length+1))=False:=by simp;omega
  have hkl:=(ha.2 m (List.mem_of_getElem? hm)).2
  have hix:=fun (k:IntKind)=>iaF_sl (av:=Nd.av) (sz:=6) (s:=a.nodes) (k:=k) (j:=(i:Int)) (x:=m) (by omega) (by simpa using hm) rfl
  have hiy:=fun (k:IntKind)=>iaF_sl (av:=Nd.av) (sz:=6) (s:=b.nodes) (k:=k) (j:=(j:Int)) (x:=n) (by omega) (by simpa using hn) rfl
  have k84:=fun B=>f92 a b o m n ks js hmk hnk hkl (fun x hx y hy T=>ih x hx y ((isTs_iff.1 hns) y hy) T) (B :: T)
  simp only [List.cons_append] at k84
  have q3:=beq_avS _ beq_nd a.nodes
  have q4:=beq_avS _ beq_nd b.nodes
  have q5:=beq_avS _ beq_iV m.kids
  have q6:=beq_avS _ beq_iV n.kids
  rw [fn_go (KX _ _ _) fn91 rfl (by simp [c91])]
  simp only [Tr.i,sameT,sameN]
  generalize sameTs ks js=z at *
  by_cases c1:m.k=n.k
  case neg=>simp [c91,KL,lendF,ne,hget_deep,hix,hiy,c1,q3,q4,q5,q6]
  have d1:(m.k=n.k)=True:=by simp [c1]
  by_cases c2:m.num=n.num
  case neg=>simp [c91,KL,lendF,ne,hget_deep,hix,hiy,d1,c2,q3,q4,q5,q6]
  have d2:(m.num=n.num)=True:=by simp [c2]
  by_cases c3:m.nm=n.nm
  case neg=>simp [c91,KL,lendF,ne,hget_deep,hix,hiy,d1,d2,c3,q3,q4,q5,q6]
  have d3:(m.nm=n.nm)=True:=by simp [c3]
  by_cases c4:m.attr=n.attr
  case neg=>simp [c91,KL,lendF,ne,hget_deep,hix,hiy,d1,d2,d3,c4,q3,q4,q5,q6]
  have d4:(m.attr=n.attr)=True:=by simp [c4]
  simp [c91,KL,lendF,ne,hget_deep,hix,hiy,d1,d2,d3,d4,k84,q3,q4,q5,q6]
theorem f91s (a b:Po) (ha:okP a) (o:Heap):∀ (ts:List Tr),IsTs a.nodes.l ts→∀ t∈ts,∀ u,IsT b.nodes.l u→∀ (T:List (List Blk)),
  (mu K).fn 91 [iV (t.i:Int),iV (u.i:Int),.ptr (o.length,0) 0,.ptr (o.length,1) 0,.ptr (o.length,2) 0] (T++FSh a b o)=some (.val (.bool (sameT t u)) (T++FSh a b o))
 | [],_,t,ht,_,_,_=>by simp at ht
 | x :: ts,h,t,ht,u,hu,T=>by
  rcases List.mem_cons.1 ht with e | ht
  ·rw [e]
   exact f91 a b ha o x u h.1 hu T
  ·exact f91s a b ha o ts h.2 t ht u hu T
end
theorem f54 (a b:Po) (ha:Sz a) (hb:Sz b) (t u:Tr) (ga:Pol.Good a t) (gb:Pol.Good b u) (h:Heap):(mu K).fn 54 [a.av,b.av] h=some (.val (.bool (sameP a b t u)) h):=by
 have k1:=fun h=>f50 a ha h
 have k2:=fun h=>f50 b hb h
 rw [good_chk ga] at k1
 rw [good_chk gb] at k2
 have k83:=f91 a b ha.nodes h t u ga.isT gb.isT []
 rw [ga.root,gb.root] at k83
 simp only [List.nil_append] at k83
 have k85:=fun h=>f93 a.uses b.uses ha.uses.1 h
 have k26:=fun h=>f94 a.reveal b.reveal ha.reveal.1 h
 rw [fn_go (KX _ _ _) fn54 rfl (by simp [c54])]
 unfold sameP sameH
 generalize sameT t u=z at *
 by_cases c1:a.name=b.name
 case neg=>simp [c54,KL,lendF,k1,k2,c1]
 have d1:(a.name=b.name)=True:=by simp [c1]
 by_cases c2:a.scope=b.scope
 case neg=>simp [c54,KL,lendF,k1,k2,d1,c2]
 have d2:(a.scope=b.scope)=True:=by simp [c2]
 by_cases c3:a.limit=b.limit
 case neg=>simp [c54,KL,lendF,k1,k2,d1,d2,c3]
 have d3:(a.limit=b.limit)=True:=by simp [c3]
 by_cases c4:a.escrow=b.escrow
 case neg=>simp [c54,KL,lendF,k1,k2,d1,d2,d3,c4]
 have d4:(a.escrow=b.escrow)=True:=by simp [c4]
 by_cases c5:a.uses.l=b.uses.l
 case neg=>
  rw [decide_eq_false c5] at k85
  simp [c54,KL,lendF,k1,k2,d1,d2,d3,d4,k85,c5]
 have d5:(a.uses.l=b.uses.l)=True:=by simp [c5]
 rw [decide_eq_true c5] at k85
 by_cases c6:a.reveal.l=b.reveal.l
 case neg=>
  rw [decide_eq_false c6] at k26
  simp [c54,KL,lendF,k1,k2,d1,d2,d3,d4,d5,k85,k26,c6]
 have d6:(a.reveal.l=b.reveal.l)=True:=by simp [c6]
 rw [decide_eq_true c6] at k26
 simp [c54,KL,lendF,k1,k2,d1,d2,d3,d4,d5,d6,k85,k26,k83]
end Go.Ab.Pz
/-
  Same: the reference.
-/
namespace Go.Ab.Pz
open Go.Ab.Pol
set_option maxRecDepth 100000
set_option maxHeartbeats 1000000
mutual
theorem f95 (a b:Po) (ha:okP a):∀ (t u:Tr),IsT a.nodes.l t→IsT b.nodes.l u→∀ (h:Heap),
  (mu K).fn 95 [a.av,b.av,iV (t.i:Int),iV (u.i:Int)] h=some (.val (.bool (sameT t u)) h)
 | .nd i m ks,.nd j n js,⟨hm,hmk,hms⟩,⟨hn,hnk,hns⟩,h=>by
  have ih:=f95s a b ha ks hms
  have hkl:=(ha.2 m (List.mem_of_getElem? hm)).2
  have lm:m.kids.l.length=ks.length:=by rw [hmk];simp
  have ln:n.kids.l.length=js.length:=by rw [hnk];simp
  have hix:=fun (k:IntKind)=>iaF_sl (av:=Nd.av) (sz:=6) (s:=a.nodes) (k:=k) (j:=(i:Int)) (x:=m) (by omega) (by simpa using hm) rfl
  have hiy:=fun (k:IntKind)=>iaF_sl (av:=Nd.av) (sz:=6) (s:=b.nodes) (k:=k) (j:=(j:Int)) (x:=n) (by omega) (by simpa using hn) rfl
  have q1:=beq_avS _ beq_us a.uses
  have q2:=beq_avS _ beq_rf a.reveal
  have q3:=beq_avS _ beq_nd a.nodes
  have q4:=beq_avS _ beq_us b.uses
  have q5:=beq_avS _ beq_rf b.reveal
  have q6:=beq_avS _ beq_nd b.nodes
  have q7:=beq_avS _ beq_iV m.kids
  have q8:=beq_avS _ beq_iV n.kids
  rw [fn_go (KX _ _ _) fn95 rfl (by simp [c95])]
  simp only [Tr.i,sameT,sameN]
  by_cases c1:m.k=n.k
  case neg=>simp [c95,KL,lendF,hix,hiy,c1,q3,q6,q7,q8]
  have d1:(m.k=n.k)=True:=by simp [c1]
  by_cases c2:m.num=n.num
  case neg=>simp [c95,KL,lendF,hix,hiy,d1,c2,q3,q6,q7,q8]
  have d2:(m.num=n.num)=True:=by simp [c2]
  by_cases c3:m.nm=n.nm
  case neg=>simp [c95,KL,lendF,hix,hiy,d1,d2,c3,q3,q6,q7,q8]
  have d3:(m.nm=n.nm)=True:=by simp [c3]
  by_cases c4:m.attr=n.attr
  case neg=>simp [c95,KL,lendF,hix,hiy,d1,d2,d3,c4,q3,q6,q7,q8]
  have d4:(m.attr=n.attr)=True:=by simp [c4]
  by_cases hlen:ks.length=js.length
  case neg=>
   have e2:((ks.length:Int)=(js.length:Int))=False:=by simp;omega
   rw [sameTs_len ks js hlen]
   simp [c95,KL,lendF,hix,hiy,d1,d2,d3,d4,lm,ln,e2,hlen,q3,q6,q7,q8]
  have e2:((ks.length:Int)=(js.length:Int))=True:=by simp;omega
  have hz:(ks.zip js).length=ks.length:=by simp [hlen]
  have key:=loop_iter (K:=K) (n:=4) (live:=[4,5,9,10,11]) (a:=l95_0) (fun (_:Unit) (q:Tr×Tr)=>if sameT q.1 q.2=true then (.inl ():Unit ⊕ Unit) else .inr ())
   (fun pre _=>⟨[(4,.ptr (h.length,0) 0),(5,.ptr (h.length,1) 0),(9,.ptr (h.length,2) 0),(10,.ptr (h.length,3) 0),(11,iV (pre.length:Int))],[.box 26 false a.av,.box 26 false b.av,.box 63 false m.av,.box 63 false n.av] :: h⟩) (fun _ _=>True)
   (fun _ r=>∃ env,r=some (.exit 0,⟨env,[.box 26 false a.av,.box 26 false b.av,.box 63 false m.av,.box 63 false n.av] :: h⟩)) (fun _ r=>∃ env R,r=some (.ret,⟨env,R :: h⟩)∧get env 8=.bool false) (ks.zip js)
   (fun pre q r u hl' _=>by
    obtain ⟨x,y⟩:=q
    obtain ⟨h1,h2,w1⟩:=idx_facts hl' (by omega)
    rw [hz] at h1
    obtain ⟨g1,g2⟩:=List.getElem?_zip_eq_some.1 h2
    have k1:m.kids.l[pre.length]?=some (x.i:Int):=by rw [hmk,List.getElem?_map,g1];rfl
    have k2:n.kids.l[pre.length]?=some (y.i:Int):=by rw [hnk,List.getElem?_map,g2];rfl
    have hjx:=fun (k:IntKind)=>iaF_sl (av:=iV) (sz:=1) (s:=m.kids) (k:=k) (j:=(pre.length:Int)) (x:=(x.i:Int)) (by omega) (by simpa using k1) rfl
    have hjy:=fun (k:IntKind)=>iaF_sl (av:=iV) (sz:=1) (s:=n.kids) (k:=k) (j:=(pre.length:Int)) (x:=(y.i:Int)) (by omega) (by simpa using k2) rfl
    have k:=fun h=>ih x (List.mem_of_getElem? g1) y ((isTs_iff.1 hns) y (List.mem_of_getElem? g2)) h
    have h1':((pre.length:Int) < (m.kids.l.length:Int)):=by rw [lm];exact h1
    rw [loop_go]
    generalize (mu K).code (.loopAt 4 [4,5,9,10,11] l95_0)=F
    clear hl'
    cases e:sameT x y
    ·rw [e] at k
     simp [l95_0,KL,lendF,h1',hjx,hjy,w1,k,q1,q2,q3,q4,q5,q6,q7,q8]
    ·rw [e] at k
     simp [l95_0,KL,lendF,h1',hjx,hjy,w1,k,q1,q2,q3,q4,q5,q6,q7,q8])
   (fun u _=>by
    rw [loop_go]
    generalize (mu K).code (.loopAt 4 [4,5,9,10,11] l95_0)=F
    simp [l95_0,hz,hlen,lm]) () trivial
  simp only [List.length_nil,Int.natCast_zero] at key
  rw [sameTs_zip ks js hlen]
  cases e:(ks.zip js).all fun q=>sameT q.1 q.2
  ·rw [(iter_all (fun q:Tr×Tr=>sameT q.1 q.2) (ks.zip js)).2 e] at key
   obtain ⟨env,R,k,g⟩:=key
   simp [c95,KL,lendF,hix,hiy,d1,d2,d3,d4,lm,ln,e2,hlen,k,g,q3,q6,q7,q8]
  ·rw [(iter_all (fun q:Tr×Tr=>sameT q.1 q.2) (ks.zip js)).1 e] at key
   obtain ⟨_,env,k⟩:=key
   simp [c95,KL,lendF,hix,hiy,d1,d2,d3,d4,lm,ln,e2,hlen,k,q3,q6,q7,q8]
theorem f95s (a b:Po) (ha:okP a):∀ (ts:List Tr),IsTs a.nodes.l ts→∀ t∈ts,∀ u,IsT b.nodes.l u→∀ (h:Heap),
  (mu K).fn 95 [a.av,b.av,iV (t.i:Int),iV (u.i:Int)] h=some (.val (.bool (sameT t u)) h)
 | [],_,t,ht,_,_,_=>by simp at ht
 | x :: ts,h,t,ht,u,hu,H=>by
  rcases List.mem_cons.1 ht with e | ht
  ·rw [e]
   exact f95 a b ha x u h.1 hu H
  ·exact f95s a b ha ts h.2 t ht u hu H
end
theorem f55 (a b:Po) (ha:Sz a) (hb:Sz b) (t u:Tr) (ga:Pol.Good a t) (gb:Pol.Good b u) (h:Heap):(mu K).fn 55 [a.av,b.av] h=some (.val (.bool (sameP a b t u)) h):=by
 have k1:=fun h=>f53 a ha h
 have k2:=fun h=>f53 b hb h
 rw [good_chk ga] at k1
 rw [good_chk gb] at k2
 have k86:=fun h=>f95 a b ha.nodes t u ga.isT gb.isT h
 rw [ga.root,gb.root] at k86
 have q1:=beq_avS _ beq_us a.uses
 have q2:=beq_avS _ beq_rf a.reveal
 have q3:=beq_avS _ beq_nd a.nodes
 have q4:=beq_avS _ beq_us b.uses
 have q5:=beq_avS _ beq_rf b.reveal
 have q6:=beq_avS _ beq_nd b.nodes
 rw [fn_go (KX _ _ _) fn55 rfl (by simp [c55])]
 unfold sameP sameH
 generalize sameT t u=z at *
 by_cases c1:a.name=b.name
 case neg=>simp [c55,KL,lendF,k1,k2,c1]
 have d1:(a.name=b.name)=True:=by simp [c1]
 by_cases l5:a.uses.l.length=b.uses.l.length
 case neg=>
  have e5:((a.uses.l.length:Int)=(b.uses.l.length:Int))=False:=by simp;omega
  have c5:¬ a.uses.l=b.uses.l:=fun q=>l5 (by rw [q])
  simp [c55,KL,lendF,k1,k2,d1,e5,l5,c5]
 have e5:((a.uses.l.length:Int)=(b.uses.l.length:Int))=True:=by simp;omega
 by_cases l6:a.reveal.l.length=b.reveal.l.length
 case neg=>
  have e6:((a.reveal.l.length:Int)=(b.reveal.l.length:Int))=False:=by simp;omega
  have c6:¬ a.reveal.l=b.reveal.l:=fun q=>l6 (by rw [q])
  simp [c55,KL,lendF,k1,k2,d1,e5,l5,e6,l6,c6]
 have e6:((a.reveal.l.length:Int)=(b.reveal.l.length:Int))=True:=by simp;omega
 by_cases c2:a.scope=b.scope
 case neg=>simp [c55,KL,lendF,k1,k2,d1,e5,l5,e6,l6,c2]
 have d2:(a.scope=b.scope)=True:=by simp [c2]
 by_cases c3:a.limit=b.limit
 case neg=>simp [c55,KL,lendF,k1,k2,d1,e5,l5,e6,l6,d2,c3]
 have d3:(a.limit=b.limit)=True:=by simp [c3]
 by_cases c4:a.escrow=b.escrow
 case neg=>simp [c55,KL,lendF,k1,k2,d1,e5,l5,e6,l6,d2,d3,c4]
 have d4:(a.escrow=b.escrow)=True:=by simp [c4]
 have z5:(a.uses.l.zip b.uses.l).length=a.uses.l.length:=by simp [l5]
 have z6:(a.reveal.l.zip b.reveal.l).length=a.reveal.l.length:=by simp [l6]
 have key0:=loop_iter (K:=K) (n:=2) (live:=[2,3,5]) (a:=l55_0) (fun (_:Unit) (q:Us×Us)=>if decide (q.1=q.2)=true then (.inl ():Unit ⊕ Unit) else .inr ())
  (fun pre _=>⟨[(2,.ptr (h.length,0) 0),(3,.ptr (h.length,1) 0),(5,iV (pre.length:Int))],[.box 26 false a.av,.box 26 false b.av] :: h⟩) (fun _ _=>True)
  (fun _ o=>∃ env,o=some (.exit 0,⟨env,[.box 26 false a.av,.box 26 false b.av] :: h⟩)∧get env 2=.ptr (h.length,0) 0∧get env 3=.ptr (h.length,1) 0) (fun _ o=>∃ env R,o=some (.ret,⟨env,R :: h⟩)∧get env 4=.bool false) (a.uses.l.zip b.uses.l)
  (fun pre q r u hl _=>by
   obtain ⟨x,y⟩:=q
   obtain ⟨h1,h2,w1⟩:=idx_facts hl (by have:=ha.uses.1;omega)
   rw [z5] at h1
   obtain ⟨g1,g2⟩:=List.getElem?_zip_eq_some.1 h2
   have hix:=fun (k:IntKind)=>iaF_sl (av:=Us.av) (sz:=2) (s:=a.uses) (k:=k) (j:=(pre.length:Int)) (x:=x) (by omega) (by simpa using g1) rfl
   have hiy:=fun (k:IntKind)=>iaF_sl (av:=Us.av) (sz:=2) (s:=b.uses) (k:=k) (j:=(pre.length:Int)) (x:=y) (by omega) (by simpa using g2) rfl
   have qe:=eq_us x y
   rw [loop_go]
   generalize (mu K).code (.loopAt 2 [2,3,5] l55_0)=F
   clear hl
   by_cases e:x=y
   ·subst e
    simp [l55_0,KL,lendF,h1,hix,hiy,w1,eqFs,eqF,q1,q4]
   ·rw [decide_eq_false e] at qe
    simp only [Us.cs] at qe
    simp [l55_0,KL,lendF,h1,hix,hiy,w1,e,qe,q1,q4])
  (fun u _=>by
   rw [loop_go]
   generalize (mu K).code (.loopAt 2 [2,3,5] l55_0)=F
   simp [l55_0,z5]) () trivial
 have key1:=loop_iter (K:=K) (n:=2) (live:=[2,3,6]) (a:=l55_1) (fun (_:Unit) (q:Rf×Rf)=>if decide (q.1=q.2)=true then (.inl ():Unit ⊕ Unit) else .inr ())
  (fun pre _=>⟨[(2,.ptr (h.length,0) 0),(3,.ptr (h.length,1) 0),(6,iV (pre.length:Int))],[.box 26 false a.av,.box 26 false b.av] :: h⟩) (fun _ _=>True)
  (fun _ o=>∃ env,o=some (.exit 2,⟨env,[.box 26 false a.av,.box 26 false b.av] :: h⟩)∧get env 2=.ptr (h.length,0) 0∧get env 3=.ptr (h.length,1) 0) (fun _ o=>∃ env R,o=some (.ret,⟨env,R :: h⟩)∧get env 4=.bool false) (a.reveal.l.zip b.reveal.l)
  (fun pre q r u hl _=>by
   obtain ⟨x,y⟩:=q
   obtain ⟨h1,h2,w1⟩:=idx_facts hl (by have:=ha.reveal.1;omega)
   rw [z6] at h1
   obtain ⟨g1,g2⟩:=List.getElem?_zip_eq_some.1 h2
   have hix:=fun (k:IntKind)=>iaF_sl (av:=Rf.av) (sz:=2) (s:=a.reveal) (k:=k) (j:=(pre.length:Int)) (x:=x) (by omega) (by simpa using g1) rfl
   have hiy:=fun (k:IntKind)=>iaF_sl (av:=Rf.av) (sz:=2) (s:=b.reveal) (k:=k) (j:=(pre.length:Int)) (x:=y) (by omega) (by simpa using g2) rfl
   have qe:=eq_rf x y
   rw [loop_go]
   generalize (mu K).code (.loopAt 2 [2,3,6] l55_1)=F
   clear hl
   by_cases e:x=y
   ·subst e
    simp [l55_1,KL,lendF,h1,hix,hiy,w1,eqFs,eqF,q2,q5]
   ·rw [decide_eq_false e] at qe
    simp only [Rf.cs] at qe
    simp [l55_1,KL,lendF,h1,hix,hiy,w1,e,qe,q2,q5])
  (fun u _=>by
   rw [loop_go]
   generalize (mu K).code (.loopAt 2 [2,3,6] l55_1)=F
   simp [l55_1,z6]) () trivial
 simp only [List.length_nil,Int.natCast_zero] at key0 key1
 have ez5:=zipAll a.uses.l b.uses.l l5
 have ez6:=zipAll a.reveal.l b.reveal.l l6
 by_cases c5:a.uses.l=b.uses.l
 case neg=>
  rw [decide_eq_false c5] at ez5
  rw [(iter_all (fun q:Us×Us=>decide (q.1=q.2)) (a.uses.l.zip b.uses.l)).2 ez5] at key0
  obtain ⟨env,R,k,g⟩:=key0
  simp [c55,KL,lendF,k1,k2,d1,e5,l5,e6,l6,d2,d3,d4,k,g,c5]
 have d5:(a.uses.l=b.uses.l)=True:=by simp [c5]
 rw [decide_eq_true c5] at ez5
 rw [(iter_all (fun q:Us×Us=>decide (q.1=q.2)) (a.uses.l.zip b.uses.l)).1 ez5] at key0
 obtain ⟨_,env0,k,g2,g3⟩:=key0
 by_cases c6:a.reveal.l=b.reveal.l
 case neg=>
  rw [decide_eq_false c6] at ez6
  rw [(iter_all (fun q:Rf×Rf=>decide (q.1=q.2)) (a.reveal.l.zip b.reveal.l)).2 ez6] at key1
  obtain ⟨env,R,kk,g⟩:=key1
  simp [c55,KL,lendF,k1,k2,d1,e5,l5,e6,l6,d2,d3,d4,k,g2,g3,kk,g,d5,c6]
 have d6:(a.reveal.l=b.reveal.l)=True:=by simp [c6]
 rw [decide_eq_true c6] at ez6
 rw [(iter_all (fun q:Rf×Rf=>decide (q.1=q.2)) (a.reveal.l.zip b.reveal.l)).1 ez6] at key1
 obtain ⟨_,env1,kk,g4,g5⟩:=key1
 simp [c55,KL,lendF,k1,k2,d1,e5,l5,e6,l6,d2,d3,d4,d5,d6,k,g2,g3,kk,g4,g5,k86,q1,q2,q3,q4,q5,q6]
end Go.Ab.Pz
