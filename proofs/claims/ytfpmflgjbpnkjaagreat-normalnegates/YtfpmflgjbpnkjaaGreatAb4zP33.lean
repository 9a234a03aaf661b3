/-
  Same: the program.
-/
import Derived.Test.YtfpmflgjbpnkjaaGreatAb4zP10
import Derived.Test.YtfpmflgjbpnkjaaGreatAb4zP6
import Derived.Test.YtfpmflgjbpnkjaaGreatAbRefs
set_option linter.unusedVariables false
set_option linter.unusedSimpArgs false
set_option linter.unusedSectionVars false
namespace Go.Ab.Pz
open Go.Ab.Pol
set_option maxRecDepth 100000
set_option maxHeartbeats 1000000
abbrev FSh (a b:Po) (o:Heap):Heap:=[.box 26 false a.av,.box 26 false b.av,.box 158 false (.fn (.func 91) [] [.ptr (o.length,0) 0,.ptr (o.length,1) 0,.ptr (o.length,2) 0])] :: o
theorem f92 (a b:Po) (o:Heap) (m n:Nd) (ks js:List Tr) (hm:m.kids.l=ks.map fun k=>(k.i:Int)) (hn:n.kids.l=js.map fun k=>(k.i:Int)) (hl:m.kids.l.length≤1000)
  (ih:∀ x∈ks,∀ y∈js,∀ T:List (List Blk),(mu K).fn 91 [iV (x.i:Int),iV (y.i:Int),.ptr (o.length,0) 0,.ptr (o.length,1) 0,.ptr (o.length,2) 0] (T++FSh a b o)=some (.val (.bool (sameT x y)) (T++FSh a b o))) (T:List (List Blk)) :
  (mu K).fn 92 [m.kids.avS iV,n.kids.avS iV,.fn (.func 91) [] [.ptr (o.length,0) 0,.ptr (o.length,1) 0,.ptr (o.length,2) 0]] (T++FSh a b o)=some (.val (.bool (sameTs ks js)) (T++FSh a b o)):=by
 have lm:m.kids.l.length=ks.length:=by rw [hm];simp
 have ln:n.kids.l.length=js.length:=by rw [hn];simp
 rw [fn_go (KX _ _ _) fn92 rfl (by simp [c92])]
 by_cases hlen:ks.length=js.length
 case neg=>
  have e2:((ks.length:Int)=(js.length:Int))=False:=by simp;omega
  rw [sameTs_len ks js hlen]
  simp [c92,KL,lendF,lm,ln,e2,hlen]
 have e2:((ks.length:Int)=(js.length:Int))=True:=by simp;omega
 have hz:(ks.zip js).length=ks.length:=by simp [hlen]
 have key:=loop_iter (K:=K) (n:=0) (live:=[1,2,15,16,17]) (a:=l92_0) (fun (_:Unit) (q:Tr×Tr)=>if sameT q.1 q.2=true then (.inl ():Unit ⊕ Unit) else .inr ())
  (fun pre _=>⟨[(1,n.kids.avS iV),(2,.fn (.func 91) [] [.ptr (o.length,0) 0,.ptr (o.length,1) 0,.ptr (o.length,2) 0]),(15,m.kids.avS iV),(16,iV (ks.length:Int)),(17,iV (pre.length:Int))],[] :: (T++FSh a b o)⟩) (fun _ _=>True)
  (fun _ r=>∃ env,r=some (.exit 0,⟨env,[] :: (T++FSh a b o)⟩)) (fun _ r=>∃ env,r=some (.ret,⟨env,[] :: (T++FSh a b o)⟩)∧get env 6=.bool false) (ks.zip js)
  (fun pre q r u hl' _=>by
   obtain ⟨x,y⟩:=q
   obtain ⟨h1,h2,w1⟩:=idx_facts hl' (by omega)
   rw [hz] at h1
   obtain ⟨g1,g2⟩:=List.getElem?_zip_eq_some.1 h2
   have k1:m.kids.l[pre.length]?=some (x.i:Int):=by rw [hm,List.getElem?_map,g1];rfl
   have k2:n.kids.l[pre.length]?=some (y.i:Int):=by rw [hn,List.getElem?_map,g2];rfl
   have hix:=fun (k:IntKind)=>iaF_sl (av:=iV) (sz:=1) (s:=m.kids) (k:=k) (j:=(pre.length:Int)) (x:=(x.i:Int)) (by omega) (by simpa using k1) rfl
   have hiy:=fun (k:IntKind)=>iaF_sl (av:=iV) (sz:=1) (s:=n.kids) (k:=k) (j:=(pre.length:Int)) (x:=(y.i:Int)) (by omega) (by simpa using k2) rfl
   have k:=ih x (List.mem_of_getElem? g1) y (List.mem_of_getElem? g2) ([] :: T)
   simp only [List.cons_append] at k
   rw [loop_go]
   generalize (mu K).code (.loopAt 0 [1,2,15,16,17] l92_0)=F
   clear hl'
   cases e:sameT x y
   ·rw [e] at k
    simp [l92_0,KL,lendF,h1,hix,hiy,w1,k,e]
   ·rw [e] at k
    simp [l92_0,KL,lendF,h1,hix,hiy,w1,k,e])
  (fun u _=>by
   rw [loop_go]
   generalize (mu K).code (.loopAt 0 [1,2,15,16,17] l92_0)=F
   simp [l92_0,hz,hlen]) () trivial
 simp only [List.length_nil,Int.natCast_zero] at key
 rw [sameTs_zip ks js hlen]
 rw [hlen] at key
 cases e:(ks.zip js).all fun q=>sameT q.1 q.2
 ·rw [(iter_all (fun q:Tr×Tr=>sameT q.1 q.2) (ks.zip js)).2 e] at key
  obtain ⟨env,k,g⟩:=key
  simp [c92,KL,lendF,lm,ln,e2,hlen,k,g]
 ·rw [(iter_all (fun q:Tr×Tr=>sameT q.1 q.2) (ks.zip js)).1 e] at key
  obtain ⟨_,env,k⟩:=key
  simp [c92,KL,lendF,lm,ln,e2,hlen,k]
mutual
theorem f91 (a b:Po) (ha:okP a) (o:Heap):∀ (t u:Tr),IsT a.nodes.l t→IsT b.nodes.l u→∀ (T:List (List Blk)),
  (mu K).fn 91 [iV (t.i:Int),iV (u.i:Int),.ptr (o.length,0) 0,.ptr (o.length,1) 0,.ptr (o.length,2) 0] (T++FSh a b o)=some (.val (.bool (sameT t u)) (T++FSh a b o))
 | .nd i m ks,.nd j n js,⟨hm,hmk,hms⟩,⟨hn,hnk,hns⟩,T=>by
  have ih:=f91s a b ha o ks hms
  have ne:(o.length=T.length+(o.length+1))=False:=by simp;omega
  have hkl:=(ha.2 m (List.mem_of_getElem? hm)).2
  have hix:=fun (k:IntKind)=>iaF_sl (av:=Nd.av) (sz:=6) (s:=a.nodes) (k:=k) (j:=(i:Int)) (x:=m) (by omega) (by simpa using hm) rfl
  have hiy:=fun (k:IntKind)=>iaF_sl (av:=Nd.av) (sz:=6) (s:=b.nodes) (k:=k) (j:=(j:Int)) (x:=n) (by omega) (by simpa using hn) rfl
  have k84:=fun B=>f92 a b o m n ks js hmk hnk hkl (fun x hx y hy T=>ih x hx y ((isTs_iff.1 hns) y hy) T) (B :: T)
  simp only [List.cons_append] at k84
  have q3:=beq_avS _ beq_nd a.nodes
  have q4:=beq_avS _ beq_nd b.nodes
  have q5:=beq_avS _ beq_iV m.kids
  have q6:=beq_avS _ beq_iV n.kids
  rw [fn_go (KX _ _ _) fn91 rfl (by simp [c91])]
  simp only [Tr.i,sameT,sameN]
  generalize sameTs ks js=z at *
  by_cases c1:m.k=n.k
  case neg=>simp [c91,KL,lendF,ne,hget_deep,hix,hiy,c1,q3,q4,q5,q6]
  have d1:(m.k=n.k)=True:=by simp [c1]
  by_cases c2:m.num=n.num
  case neg=>simp [c91,KL,lendF,ne,hget_deep,hix,hiy,d1,c2,q3,q4,q5,q6]
  have d2:(m.num=n.num)=True:=by simp [c2]
  by_cases c3:m.nm=n.nm
  case neg=>simp [c91,KL,lendF,ne,hget_deep,hix,hiy,d1,d2,c3,q3,q4,q5,q6]
  have d3:(m.nm=n.nm)=True:=by simp [c3]
  by_cases c4:m.attr=n.attr
  case neg=>simp [c91,KL,lendF,ne,hget_deep,hix,hiy,d1,d2,d3,c4,q3,q4,q5,q6]
  have d4:(m.attr=n.attr)=True:=by simp [c4]
  simp [c91,KL,lendF,ne,hget_deep,hix,hiy,d1,d2,d3,d4,k84,q3,q4,q5,q6]
theorem f91s (a b:Po) (ha:okP a) (o:Heap):∀ (ts:List Tr),IsTs a.nodes.l ts→∀ t∈ts,∀ u,IsT b.nodes.l u→∀ (T:List (List Blk)),
  (mu K).fn 91 [iV (t.i:Int),iV (u.i:Int),.ptr (o.length,0) 0,.ptr (o.length,1) 0,.ptr (o.length,2) 0] (T++FSh a b o)=some (.val (.bool (sameT t u)) (T++FSh a b o))
 | [],_,t,ht,_,_,_=>by simp at ht
 | x :: ts,h,t,ht,u,hu,T=>by
  rcases List.mem_cons.1 ht with e | ht
  ·rw [e]
   exact f91 a b ha o x u h.1 hu T
  ·exact f91s a b ha o ts h.2 t ht u hu T
end
end Go.Ab.Pz
