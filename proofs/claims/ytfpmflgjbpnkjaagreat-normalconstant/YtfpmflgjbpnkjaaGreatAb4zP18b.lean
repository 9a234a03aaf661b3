/-
  Conditions, the visit of a policy: the program.
-/
import Derived.Test.YtfpmflgjbpnkjaaGreatAb4zP16
set_option linter.unusedVariables false
set_option linter.unusedSimpArgs false
set_option linter.unusedSectionVars false
namespace Go.Ab.Pz
open Go.Ab.Pol
set_option maxRecDepth 100000
set_option maxHeartbeats 1000000
theorem all_num:∀ l:List PV,(l.map PV.vt).all isNum=l.all PV.number
 | []=>rfl
 | x :: l=>by
  have ih:=all_num l
  have e:isNum x.vt=x.number:=by
   unfold PV.vt
   cases h:x.number
   ·by_cases q:x.words.l=[]<;>simp [q,isNum]
   ·simp [isNum]
  simp only [List.map_cons,List.all_cons,ih,e]
theorem f147 (n:Nd) (hk:n.k=6) (v:PV) (l:List PV) (hl:l.length≤1000) (hv:v.ok) (hs:∀ x∈l,x.ok) (h:Heap):(mu K).fn 147 [n.av,.lst ((v :: l).map PV.av)] h=some (.val (.int .i64 (condV n ((v :: l).map PV.vt))) h):=by
 have k1:=fun h=>f148 (v :: l) (by simp;omega) h
 have k2:=fun h=>f149 v l (by omega) hv hs h
 have e:=all_num (v :: l)
 unfold condV
 rw [if_pos hk,e]
 generalize (v :: l).map PV.av=M at *
 generalize firstA ((v :: l).map PV.vt)=r at *
 generalize (v :: l).all PV.number=b at *
 clear e
 rw [fn_go (KX _ _ _) fn147 rfl (by simp [c147])]
 by_cases c0:n.num=0
 ·have d0:(n.num=0)=True:=by simp [c0]
  simp [c147,KL,lendF,d0,k2]
 by_cases c1:n.num=1
 ·have d1:(n.num=1)=True:=by simp [c1]
  have d0:(n.num=0)=False:=by simp [c0]
  simp [c147,KL,lendF,d0,d1,k2]
 cases b
 ·simp [c147,KL,lendF,c0,c1,k1,k2]
 ·simp [c147,KL,lendF,c0,c1,k1,k2]
theorem f150 (n:Nd) (hk:n.k=7) (l:List PV) (hl:l.length≤1000) (h:Heap):(mu K).fn 150 [n.av,.lst (l.map PV.av)] h=some (.val (.int .i64 (condV n (l.map PV.vt))) h):=by
 have k1:=fun h=>f148 l (by omega) h
 have e:=all_num l
 have hk6:¬ n.k=6:=by omega
 unfold condV
 rw [if_neg hk6,if_pos hk,e]
 generalize l.map PV.av=M at *
 generalize l.all PV.number=b at *
 clear e
 rw [fn_go (KX _ _ _) fn150 rfl (by simp [c150])]
 cases b
 ·simp [c150,KL,lendF,k1]
 ·simp [c150,KL,lendF,k1]
theorem f151 (n:Nd) (hk:n.k=8) (v:PV) (l:List PV) (hl:l.length≤1000) (hv:v.ok) (hs:∀ x∈l,x.ok) (h:Heap):(mu K).fn 151 [n.av,.lst ((v :: l).map PV.av)] h=some (.val (.int .i64 (condV n ((v :: l).map PV.vt))) h):=by
 have k2:=fun h=>f149 v l (by omega) hv hs h
 have hk6:¬ n.k=6:=by omega
 have hk7:¬ n.k=7:=by omega
 unfold condV
 rw [if_neg hk6,if_neg hk7]
 generalize (v :: l).map PV.av=M at *
 generalize firstA ((v :: l).map PV.vt)=r at *
 rw [fn_go (KX _ _ _) fn151 rfl (by simp [c151])]
 simp [c151,KL,lendF,k2]
def kdF (g:Nd→Option PV) (b:List PV) (t:Tr):List PV ⊕ Nat:=match g t.n with
 | none=>.inr t.i
 | some v=>.inl (b++[v])
theorem iter_kd (g:Nd→Option PV):∀ (ks:List Tr) (b:List PV),
  (∃ vs,iter (kdF g) b ks=.inl (b++vs)∧kidsV (fun n=>(g n).map PV.vt) ks=.inr (vs.map PV.vt)∧vs.length=ks.length∧∀ v∈vs,∃ t∈ks,g t.n=some v) ∨
  (∃ i,iter (kdF g) b ks=.inr i∧kidsV (fun n=>(g n).map PV.vt) ks=.inl i)
 | [],b=>.inl ⟨[],by simp [iter],rfl,rfl,by simp⟩
 | t :: ks,b=>by
  simp only [iter,kdF,kidsV]
  cases e:g t.n with
  | none=>exact .inr ⟨t.i,rfl,rfl⟩
  | some v=>
   rcases iter_kd g ks (b++[v]) with ⟨vs,h1,h2,h3,h4⟩ | ⟨i,h1,h2⟩
   ·refine .inl ⟨v :: vs,by simp [h1],by simp [h2],by simp [h3],fun x hx=>?_⟩
    rcases List.mem_cons.1 hx with rfl | hx
    ·exact ⟨t,by simp,e⟩
    ·obtain ⟨u,a,b⟩:=h4 x hx
     exact ⟨u,by simp [a],b⟩
   ·exact .inr ⟨i,by simp [h1],by simp [h2]⟩
abbrev ckAV:AV:=.agg [.nilf,.nilf,.nilf,.nilf,.nilf,.nilf,.fn (.func 147) [] [],.fn (.func 150) [] [],.fn (.func 151) [] [],.nilf,.nilf,.nilf]
abbrev vtF (p:Po) (l:Sl Sc):Nd→Option VT:=fun n=>(pvOf p.uses.l l.l n).map PV.vt
theorem f99 (p:Po) (hp:Sz p) (l:Sl Sc) (hl:okL l) (hs:∀ s∈l.l,schE s=0):∀ (t:Tr) {c:Bool},IsT p.nodes.l t→WF t c→∀ (h:Heap),
  (mu K).fn 99 [fitAV p l,.int .i64 (t.i:Int)] h=some (.val (.tup [.int .i64 (condE (vtF p l) t).1,.int .i64 (condE (vtF p l) t).2]) h)
 | .nd i n ks,c,⟨hn,hkk,hts⟩,hw,h=>by
  obtain ⟨k0,k12,_,hko,_⟩:=form_parts hw.1
  have hmem:n∈p.nodes.l:=List.mem_of_getElem? hn
  have hkl:=(hp.nodes.2 n hmem).2
  have hix:=fun (k:IntKind)=>iaF_sl (av:=Nd.av) (sz:=6) (s:=p.nodes) (k:=k) (j:=(i:Int)) (x:=n) (by omega) (by simpa using hn) rfl
  rw [fn_go (KX _ _ _) fn99 rfl (by simp [c99])]
  by_cases hk:n.k=6∨n.k=7∨n.k=8
  case neg=>
   have e0:condE (vtF p l) (.nd i n ks)=(0,0):=by simp only [condE];rw [if_neg hk]
   rw [e0]
   have:n.k=0∨n.k=1∨n.k=2∨n.k=3∨n.k=4∨n.k=5∨n.k=9∨n.k=10∨n.k=11:=by omega
   rcases this with q | q | q | q | q | q | q | q | q<;>simp [c99,KL,lendF,Tr.i,hix,q]
  have hlk:n.kids.l.length=ks.length:=by rw [hkk];simp
  have hk2:2≤ks.length:=by
   rw [hlk] at hko
   unfold kidsOk at hko
   rcases hk with q | q | q
   ·rw [if_neg (by omega),if_neg (by omega),if_neg (by omega),if_pos q] at hko
    simp at hko;omega
   ·rw [if_neg (by omega),if_neg (by omega),if_neg (by omega),if_neg (by omega),if_pos q] at hko
    simp at hko;omega
   ·rw [if_neg (by omega),if_neg (by omega),if_neg (by omega),if_neg (by omega),if_neg (by omega),if_pos q] at hko
    simpa using hko
  have key:=loop_iter (K:=K) (n:=4) (live:=[1,2,6,7,8,27,28,29]) (a:=l99_0) (kdF (pvOf p.uses.l l.l))
   (fun pre b=>⟨[(1,.int .i64 (i:Int)),(2,.ptr (h.length,0) 0),(6,.ptr (h.length,1) 0),(7,.ptr (h.length,2) 0),(8,.own (h.length,3) b.length),(27,n.kids.avS iV),(28,.int .i64 (n.kids.l.length:Int)),(29,.int .i64 (pre.length:Int))],
    [.box 114 false (fitAV p l),.box 204 false ckAV,.box 63 false n.av,.arr (if pre=[] then 0 else 206) (if pre=[] then 0 else 3) false (b.map PV.av)] :: h⟩) (fun pre b=>b.length=pre.length)
   (fun b o=>∃ env,o=some (.exit 0,⟨env,[.box 114 false (fitAV p l),.box 204 false ckAV,.box 63 false n.av,.arr 206 3 false (b.map PV.av)] :: h⟩)∧get env 1=.int .i64 (i:Int)∧get env 6=.ptr (h.length,1) 0∧get env 7=.ptr (h.length,2) 0∧get env 8=.own (h.length,3) b.length)
   (fun j o=>∃ env R,o=some (.ret,⟨env,R :: h⟩)∧get env 4=.int .i64 (j:Int)∧get env 5=.int .i64 9) ks
   (fun pre x r b hl' hb=>by
    obtain ⟨h1,h2,w1⟩:=idx_facts hl' (by omega)
    have hx:=(isTs_iff.1 hts) x (by rw [hl'];simp)
    have hxn:p.nodes.l[x.i]?=some x.n:=by
     cases x with
     | nd a b c=>exact hx.1
    have g2:n.kids.l[pre.length]?=some (x.i:Int):=by rw [hkk,List.getElem?_map,h2];rfl
    have hiy:=fun (k:IntKind)=>iaF_sl (av:=iV) (sz:=1) (s:=n.kids) (k:=k) (j:=(pre.length:Int)) (x:=(x.i:Int)) (by omega) (by simpa using g2) rfl
    have k:=fun h=>f152 p hp.uses.1 l hl hxn h
    have hlen:ks.length=pre.length+(r.length+1):=by rw [hl'];simp
    have r1:(pre.length+1) * 48≤room:=by unfold room;omega
    have r2:pre.length+1≤room:=by unfold room;omega
    rw [hlk]
    rw [loop_go]
    generalize (mu K).code (.loopAt 4 [1,2,6,7,8,27,28,29] l99_0)=F
    clear hl'
    unfold kdF
    cases e:pvOf p.uses.l l.l x.n with
    | none=>
     rw [e] at k
     have z0:pvAV none=.agg [.bool true,.nils,.str []]:=rfl
     rw [z0] at k
     by_cases hpre:pre=[]
     ·have d:(pre=[])=True:=by simp [hpre]
      simp [l99_0,KL,lendF,h1,hiy,w1,k,d]
     ·simp [l99_0,KL,lendF,h1,hiy,w1,k,hpre]
    | some v=>
     rw [e] at k
     have z0:pvAV (some v)=v.av:=rfl
     rw [z0] at k
     by_cases hpre:pre=[]
     ·have d:(pre=[])=True:=by simp [hpre]
      simp [l99_0,KL,lendF,h1,hiy,w1,k,d,r1,r2,hb,List.replicate]
     ·simp [l99_0,KL,lendF,h1,hiy,w1,k,hpre,r1,r2,hb,List.replicate])
   (fun b hb=>by
    have hne:(ks=[])=False:=by simp;intro q;rw [q] at hk2;simp at hk2
    rw [hlk]
    rw [loop_go]
    generalize (mu K).code (.loopAt 4 [1,2,6,7,8,27,28,29] l99_0)=F
    simp [l99_0,hne]) [] rfl
  simp only [List.length_nil,Int.natCast_zero,List.map_nil,if_true] at key
  have hvt:∀ v (t:Tr),pvOf p.uses.l l.l t.n=some v→v.ok:=fun v t e=>pv_ok hl hs t.n e
  simp only [condE]
  rw [if_pos hk]
  rcases iter_kd (pvOf p.uses.l l.l) ks [] with ⟨vs,i1,i2,i3,i4⟩ | ⟨j,i1,i2⟩
  ·rw [i1] at key
   simp only [List.nil_append] at key
   obtain ⟨_,env,kk,g1,g6,g7,g8⟩:=key
   have i2:kidsV (vtF p l) ks=.inr (vs.map PV.vt):=i2
   rw [i2]
   simp only
   have hok:∀ v∈vs,v.ok:=fun v hv=>by
    obtain ⟨t,_,e⟩:=i4 v hv
    exact hvt v t e
   obtain ⟨v,vs',rfl⟩:∃ v vs',vs=v :: vs':=by
    cases vs with
    | nil=>simp at i3;omega
    | cons v vs'=>exact ⟨v,vs',rfl⟩
   have hlv:vs'.length≤1000:=by simp at i3;omega
   have hv:=hok v (by simp)
   have hvs:∀ x∈vs',x.ok:=fun x hx=>hok x (by simp [hx])
   rcases hk with q | q | q
   ·have k3:=fun h=>f147 n q v vs' hlv hv hvs h
    generalize condV n ((v :: vs').map PV.vt)=e at *
    simp only [List.map_cons,Nd.av,Nd.cs,q] at k3
    simp only [List.map_cons] at kk
    by_cases e0:e=0
    ·subst e0
     simp [c99,KL,lendF,Tr.i,hix,q,kk,g1,g6,g7,g8,k3]
    ·simp [c99,KL,lendF,Tr.i,hix,q,kk,g1,g6,g7,g8,k3,e0]
   ·have k3:=fun h=>f150 n q (v :: vs') (by simp at i3 ⊢;omega) h
    generalize condV n ((v :: vs').map PV.vt)=e at *
    simp only [List.map_cons,Nd.av,Nd.cs,q] at k3
    simp only [List.map_cons] at kk
    by_cases e0:e=0
    ·subst e0
     simp [c99,KL,lendF,Tr.i,hix,q,kk,g1,g6,g7,g8,k3]
    ·simp [c99,KL,lendF,Tr.i,hix,q,kk,g1,g6,g7,g8,k3,e0]
   ·have k3:=fun h=>f151 n q v vs' hlv hv hvs h
    generalize condV n ((v :: vs').map PV.vt)=e at *
    simp only [List.map_cons,Nd.av,Nd.cs,q] at k3
    simp only [List.map_cons] at kk
    by_cases e0:e=0
    ·subst e0
     simp [c99,KL,lendF,Tr.i,hix,q,kk,g1,g6,g7,g8,k3]
    ·simp [c99,KL,lendF,Tr.i,hix,q,kk,g1,g6,g7,g8,k3,e0]
  ·rw [i1] at key
   obtain ⟨env,R,kk,g4,g5⟩:=key
   have i2:kidsV (vtF p l) ks=.inl j:=i2
   rw [i2]
   simp only
   rcases hk with q | q | q<;>simp [c99,KL,lendF,Tr.i,hix,q,kk,g4,g5]
end Go.Ab.Pz
/-
  Check and Field of typing: the program.
-/
namespace Go.Ab.Pz
open Go.Ab.Pol
set_option maxRecDepth 100000
set_option maxHeartbeats 1000000
def vsF (f:Nd→Option VT) (_:Unit) (t:Tr):Unit ⊕ (Int×Int):=if (visitT f t).2=0 then .inl () else .inr (visitT f t)
theorem iter_vs (f:Nd→Option VT):∀ ts:List Tr,iter (vsF f) () ts=if (visitTs f ts).2=0 then .inl () else .inr (visitTs f ts)
 | []=>rfl
 | t :: ts=>by
  have ih:=iter_vs f ts
  simp only [iter,vsF,visitTs]
  by_cases e:(visitT f t).2=0
  ·simp [e,ih]
  ·simp [e]
theorem vs_zero (f:Nd→Option VT) (ts:List Tr) (h:(visitTs f ts).2=0):visitTs f ts=(0,0):=by
 rw [visits_first] at h ⊢
 exact (firstE_zero h).1
mutual
theorem f58 (p:Po) (hp:Sz p) (l:Sl Sc) (hl:okL l) (hs:∀ s∈l.l,schE s=0):∀ (t:Tr) {c:Bool},IsT p.nodes.l t→WF t c→∀ (h:Heap),
  (mu K).fn 58 [fitAV p l,.int .i64 (t.i:Int)] h=some (.val (.tup [.int .i64 (visitT (vtF p l) t).1,.int .i64 (visitT (vtF p l) t).2]) h)
 | .nd i n ks,c,ht,hw,h=>by
  have k0:=fun h=>f99 p hp l hl hs (.nd i n ks) ht hw h
  obtain ⟨hn,hkk,hts⟩:=ht
  have ih:=f58s p hp l hl hs ks hts hw.2
  have hmem:n∈p.nodes.l:=List.mem_of_getElem? hn
  have hkl:=(hp.nodes.2 n hmem).2
  have hix:=fun (k:IntKind)=>iaF_sl (av:=Nd.av) (sz:=6) (s:=p.nodes) (k:=k) (j:=(i:Int)) (x:=n) (by omega) (by simpa using hn) rfl
  have hlk:n.kids.l.length=ks.length:=by rw [hkk];simp
  rw [fn_go (KX _ _ _) fn58 rfl (by simp [c58])]
  simp only [Tr.i,visitT] at k0 ⊢
  generalize condE (vtF p l) (.nd i n ks)=q at *
  obtain ⟨a,e⟩:=q
  simp only at k0 ⊢
  by_cases e0:e=0
  case neg=>
   rw [if_neg e0]
   simp [c58,KL,lendF,k0,e0]
  rw [if_pos e0]
  subst e0
  have key:=loop_iter (K:=K) (n:=1) (live:=[2,28,29,30]) (a:=l58_0) (vsF (vtF p l))
   (fun pre _=>⟨[(2,.ptr (h.length,0) 0),(28,n.kids.avS iV),(29,.int .i64 (n.kids.l.length:Int)),(30,.int .i64 (pre.length:Int))],[.box 114 false (fitAV p l)] :: h⟩) (fun _ _=>True)
   (fun _ o=>∃ env,o=some (.exit 0,⟨env,[.box 114 false (fitAV p l)] :: h⟩))
   (fun q o=>∃ env R,o=some (.ret,⟨env,R :: h⟩)∧get env 4=.int .i64 q.1∧get env 5=.int .i64 q.2) ks
   (fun pre x r b hl' _=>by
    obtain ⟨h1,h2,w1⟩:=idx_facts hl' (by omega)
    have g2:n.kids.l[pre.length]?=some (x.i:Int):=by rw [hkk,List.getElem?_map,h2];rfl
    have hiy:=fun (k:IntKind)=>iaF_sl (av:=iV) (sz:=1) (s:=n.kids) (k:=k) (j:=(pre.length:Int)) (x:=(x.i:Int)) (by omega) (by simpa using g2) rfl
    have k:=fun h=>ih x (by rw [hl'];simp) h
    rw [hlk]
    rw [loop_go]
    generalize (mu K).code (.loopAt 1 [2,28,29,30] l58_0)=F
    clear hl'
    unfold vsF
    generalize visitT (vtF p l) x=q at *
    obtain ⟨a,e⟩:=q
    simp only at k ⊢
    by_cases e0:e=0
    ·subst e0
     simp [l58_0,KL,lendF,h1,hiy,w1,k]
    ·simp [l58_0,KL,lendF,h1,hiy,w1,k,e0])
   (fun b _=>by
    rw [hlk]
    rw [loop_go]
    generalize (mu K).code (.loopAt 1 [2,28,29,30] l58_0)=F
    simp [l58_0]) () trivial
  simp only [List.length_nil,Int.natCast_zero] at key
  rw [iter_vs] at key
  by_cases e1:(visitTs (vtF p l) ks).2=0
  ·rw [if_pos e1] at key
   rw [vs_zero _ _ e1]
   obtain ⟨_,env,k⟩:=key
   simp [c58,KL,lendF,k0,hix,k]
  ·rw [if_neg e1] at key
   obtain ⟨env,R,k,g4,g5⟩:=key
   simp [c58,KL,lendF,k0,hix,k,g4,g5]
theorem f58s (p:Po) (hp:Sz p) (l:Sl Sc) (hl:okL l) (hs:∀ s∈l.l,schE s=0):∀ (ts:List Tr) {c:Bool},IsTs p.nodes.l ts→WFs ts c→∀ t∈ts,∀ (h:Heap),
  (mu K).fn 58 [fitAV p l,.int .i64 (t.i:Int)] h=some (.val (.tup [.int .i64 (visitT (vtF p l) t).1,.int .i64 (visitT (vtF p l) t).2]) h)
 | [],c,_,_,t,ht,h=>by simp at ht
 | x :: ts,c,h1,h2,t,ht,h=>by
  rcases List.mem_cons.1 ht with e | ht
  ·rw [e]
   exact f58 p hp l hl hs x h1.1 h2.1 h
  ·exact f58s p hp l hl hs ts h1.2 h2.2 t ht h
end
theorem f36 (p:Po) (hp:Sz p) (l:Sl Sc) (hl:okL l) (t:Tr) (ht:chk p=0→Pol.Good p t) (h:Heap) :
  (mu K).fn 36 [p.av,l.avS Sc.av] h=some (.val (.tup [.int .i64 (typT p l.l t).1,.int .i64 (typT p l.l t).2]) h):=by
 have k92:=fun h=>f56 p hp l hl h
 have key:=loop_iter (K:=K) (n:=2) (live:=[6,24,25,26]) (a:=l36_0) (fun (_:Unit) (r:Rf)=>if (findF p.uses.l l.l r).isSome=true then (.inl ():Unit ⊕ Unit) else .inr ())
  (fun pre _=>⟨[(6,.ptr (h.length,1) 0),(24,p.reveal.avS Rf.av),(25,.int .i64 (p.reveal.l.length:Int)),(26,.int .i64 (pre.length:Int))],[.box 26 false p.av,.box 114 false (fitAV p l)] :: h⟩) (fun _ _=>True)
  (fun _ o=>∃ env,o=some (.exit 0,⟨env,[.box 26 false p.av,.box 114 false (fitAV p l)] :: h⟩)∧get env 6=.ptr (h.length,1) 0)
  (fun q o=>∃ env R,o=some (.ret,⟨env,R :: h⟩)∧get env 4=.int .i64 0∧get env 5=.int .i64 9) p.reveal.l
  (fun pre x r b hl' _=>by
   obtain ⟨h1,h2,w1⟩:=idx_facts hl' (by have:=hp.reveal.1;omega)
   have hix:=fun (k:IntKind)=>iaF_sl (av:=Rf.av) (sz:=2) (s:=p.reveal) (k:=k) (j:=(pre.length:Int)) (x:=x) (by omega) (by simpa using h2) rfl
   have k:=fun h=>f57 p hp.uses.1 l hl x h
   rw [loop_go]
   generalize (mu K).code (.loopAt 2 [6,24,25,26] l36_0)=F
   clear hl'
   cases e:findF p.uses.l l.l x with
   | none=>
    rw [e] at k
    simp only [plAV,fdAV] at k
    simp [l36_0,KL,lendF,h1,hix,w1,k]
   | some q=>
    obtain ⟨u,k',f⟩:=q
    rw [e] at k
    simp only [plAV,fdAV] at k
    simp [l36_0,KL,lendF,h1,hix,w1,k])
  (fun b _=>by
   rw [loop_go]
   generalize (mu K).code (.loopAt 2 [6,24,25,26] l36_0)=F
   simp [l36_0]) () trivial
 simp only [List.length_nil,Int.natCast_zero] at key
 rw [fn_go (KX _ _ _) fn36 rfl (by simp [c36])]
 unfold typT
 by_cases hr:readyE p l.l=0
 case neg=>
  rw [if_pos hr]
  simp [c36,KL,lendF,k92,hr]
 rw [if_neg (by simp [hr])]
 have rp:=ready_of hr
 have g:=ht rp.chk
 cases c3:p.reveal.l.all (fun r=>(findF p.uses.l l.l r).isSome)
 ·rw [(iter_all (fun r:Rf=>(findF p.uses.l l.l r).isSome) p.reveal.l).2 c3] at key
  obtain ⟨env,R,k,g4,g5⟩:=key
  simp [c36,KL,lendF,k92,hr,k,g4,g5]
 ·rw [(iter_all (fun r:Rf=>(findF p.uses.l l.l r).isSome) p.reveal.l).1 c3] at key
  obtain ⟨_,env,k,g6⟩:=key
  have k94:=fun h=>f58 p hp l hl rp.sch t g.isT g.wf h
  rw [g.root] at k94
  have ev:vtOf p.uses.l l.l=vtF p l:=funext fun n=>pv_vt rp.sch n
  rw [ev]
  simp [c36,KL,lendF,k92,hr,k,g6,k94]
end Go.Ab.Pz
/-
  The field of a policy: the program.
-/
namespace Go.Ab.Pz
open Go.Ab.Pol
set_option maxRecDepth 100000
set_option maxHeartbeats 1000000
theorem f177e (h:Heap):(mu K).fn 177 [.lst []] h=some (.val (.lst []) h):=by
 have hX:K.X 177 [.lst []] h=some (.val (.lst []) h):=rfl
 rw [step_mu_fn]
 simp [step,stepFn,hX]
theorem f177n (h:Heap):(mu K).fn 177 [.nils] h=some (.val .nils h):=by
 rw [fn_go (KXc _ _ _ (by decide) (by simp)) fn177 rfl (by simp [c177])]
 simp [c177,KL,lendF]
theorem f177 (s:Sl Bs) (hs:s.l.length≤1000) (h:Heap):(mu K).fn 177 [s.avS .str] h=some (.val (s.avS .str) h):=by
 obtain ⟨nl,l⟩:=s
 cases l with
 | nil=>
  cases nl
  ·exact f177e h
  ·exact f177n h
 | cons x l=>
  have e:Sl.avS AV.str ⟨nl,x :: l⟩=.lst (.str x :: l.map .str):=rfl
  simp only [List.length_cons] at hs
  have r1:(l.length+1) * 16≤room:=by unfold room;omega
  have r2:l.length+1≤room:=by unfold room;omega
  rw [e]
  rw [fn_go (KXc _ _ _ (by decide) (by simp)) fn177 rfl (by simp [c177])]
  simp [c177,KL,lendF,r1,r2]
def fieldR (p:Po) (l:List Sc) (r:Rf):Option (Nat×Nat×Pol.Fd)×Int:=if readyE p l≠0 then (none,readyE p l) else match findF p.uses.l l r with
 | none=>(none,9)
 | some q=>(some q,0)
theorem f159 (p:Po) (hp:Sz p) (l:Sl Sc) (hl:okL l) (r:Rf) (h:Heap) :
  (mu K).fn 159 [p.av,l.avS Sc.av,r.av] h=some (.val (.tup [plAV (fieldR p l.l r).1,fdAV (fieldR p l.l r).1,.int .i64 (fieldR p l.l r).2]) h):=by
 have k92:=fun h=>f56 p hp l hl h
 have k93:=fun h=>f57 p hp.uses.1 l hl r h
 rw [fn_go (KX _ _ _) fn159 rfl (by simp [c159])]
 unfold fieldR
 by_cases hr:readyE p l.l=0
 case neg=>
  rw [if_pos hr]
  simp [c159,KL,lendF,k92,hr,plAV,fdAV]
 rw [if_neg (by simp [hr])]
 cases e:findF p.uses.l l.l r with
 | none=>
  rw [e] at k93
  simp only [plAV,fdAV] at k93
  simp [c159,KL,lendF,k92,hr,k93,plAV,fdAV]
 | some q=>
  obtain ⟨u,k',f⟩:=q
  rw [e] at k93
  simp only [plAV,fdAV] at k93
  obtain ⟨s,h1,h2⟩:=find_mem e
  have k98:=fun h=>f177 f.words ((hl.sc s h1).fields f h2).len h
  have q2:=beq_avS _ beq_strS f.words
  simp [c159,KL,lendF,k92,hr,k93,k98,plAV,fdAV,q2]
end Go.Ab.Pz
