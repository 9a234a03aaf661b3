/-
  The plan of a policy passes its check.
-/
import Derived.Test.YtjnomgdildcbhaaGreatDoorAbPlanP
import Derived.Test.YtjnomgdildcbhaaGreatDoorAbOrd
set_option linter.unusedVariables false
set_option linter.unusedSimpArgs false
set_option linter.unusedSectionVars false
namespace Go.Ab.Pol
/- Ie. -/
theorem RQ{us:List Us}{al:Bs}{u:Nat}(h:nP us al=some u):∃ x,us[u]?=some x∧x.al=al:=by
 obtain⟨hlt,h1,_⟩:=aeZ.1 h;exact⟨us[u],aea hlt,by simpa using h1⟩
theorem U6{s:Sc}{nm:Bs}{k:Nat}(h:fdI s nm=some k):∃ f,s.fields.l[k]?=some f∧f.name=nm:=by
 obtain⟨hlt,h1,_⟩:=aeZ.1 h;exact⟨s.fields.l[k],aea hlt,by simpa using h1⟩
theorem pS{us:List Us}{l:List Sc}{r:Rf}{u k:Nat}{f:Fd}(h:findF us l r=some (u,k,f)) :
  ∃ x s,us[u]?=some x∧x.al=r.al∧scN l x.sc=some s∧s.fields.l[k]?=some f∧f.name=r.attr:=by
 unfold findF at h;split at h
 ·cases h
 rename_i u' hu;split at h
 ·cases h
 rename_i x hx;split at h
 ·cases h
 rename_i s hs;split at h
 ·cases h
 rename_i k' hk;split at h
 ·cases h
 rename_i g hg;simp only[fS,ad2]at h;obtain⟨rfl,rfl,rfl⟩:=h;obtain⟨y,h1,h2⟩:=RQ hu;obtain⟨g',h3,h4⟩:=U6 hk;rw[hx]at h1;rw[hg]at h3;injection h1 with h1
 injection h3 with h3
 subst h1 h3;exact⟨x,s,hx,h2,hs,hg,h4⟩
theorem LZ{us:List Us}{l:List Sc}{r r':Rf}{u k:Nat}{f f':Fd}(h:findF us l r=some (u,k,f))(h':findF us l r'=some (u,k,f')):r=r':=by
 obtain⟨x,s,a1,a2,a3,a4,a5⟩:=pS h;obtain⟨y,s',b1,b2,b3,b4,b5⟩:=pS h';rw[a1]at b1;injection b1 with b1
 subst b1;rw[a3]at b3;injection b3 with b3
 subst b3;rw[a4]at b4;injection b4 with b4
 subst b4;cases r;cases r';simp only at a2 a5 b2 b5;rw[<-a2,<-a5,b2,b5]
theorem RS{us:List Us}{l:List Sc}{r r':Rf}(h:(findF us l r).isSome=true)(h':(findF us l r').isSome=true)(e:pcR us l r=pcR us l r'):r=r':=by
 obtain⟨⟨u,k,f⟩,h⟩:=ae5.1 h;obtain⟨⟨u',k',f'⟩,h'⟩:=ae5.1 h';simp only[pcR,h,h',Pc.mk.injEq]at e;have e1:u=u':=by omega
 have e2:k=k':=by omega
 subst e1 e2;exact LZ h h'
theorem Ig{us:List Us}{l:List Sc}:∀ L:List Rf,L.Nodup->(∀ r∈L,(findF us l r).isSome=true)->twP (L.map (pcR us l))=false
 | [],_,_=>rfl
 |r :: L,hd,hs=>by
  rw[afq]at hd;simp only[Io,twP];rw[Ig L hd.2 λx hx=>hs x (by simp[hx])];simp only[ae1,decide_eq_false_iff_not,aeg,not_exists,not_and];intro x hx e;have:=RS (hs x (by simp[hx])) (hs r (by simp)) e;subst this;exact hd.1 hx
theorem eK:∀ {l:List Sc},jF l=0->∀ s∈l,ju s=0
 | [],_,s,h=>by cases h
 |x :: l,h,s,hs=>by
  simp only[jF]at h;split at h
  ·rename_i h0;rcases adY.1 hs with rfl |hs
   ·exact h0
   ·exact eK h s hs
  ·rename_i h0;exact absurd h h0
theorem A6:∀ {l:List Fd} {met:List Bs},fT met l=0->∀ f∈l,dh f=0
 | [],_,_,f,h=>by cases h
 |x :: l,met,h,f,hf=>by
  simp only[fT]at h;split at h
  ·exact absurd h (by decide)
  split at h
  ·exact absurd h (by decide)
  split at h
  ·rename_i h0;exact absurd h h0
  ·rename_i h0;rcases adY.1 hf with rfl |hf
   ·simpa using h0
   ·exact A6 h f hf
theorem nN{s:Sc}(h:ju s=0):s.fields.l.length<=16∧∀ f∈s.fields.l,dh f=0:=by
 unfold ju at h;split at h
 ·exact absurd h (by decide)
 split at h
 ·exact absurd h (by decide)
 ·exact⟨by omega,A6 h⟩
theorem Jf{f:Fd}(h:dh f=0):FdW f:=by
 unfold dh at h;split at h
 ·rename_i hk;split at h
  ·exact absurd h (by decide)
  rename_i hw;split at h
  ·exact absurd h (by decide)
  ·have hw:f.words.l=[]:=by simpa using hw
   refine⟨.inl hk,by omega,by omega,by omega,?_⟩;rw[hw];simp
 ·split at h
  ·rename_i hk;split at h
   ·exact absurd h (by decide)
   ·rename_i hm;unfold sV at h;split at h
    ·exact absurd h (by decide)
    ·refine⟨.inr ⟨hk,by omega,by omega,by omega⟩,by omega,by omega,by omega,by omega⟩
  ·exact absurd h (by decide)
theorem cx{p:Po}{l:List Sc}(h:bI p l=0):chk p=0∧jF l=0∧(l.map Sc.name).Nodup∧∀ u∈p.uses.l,(scN l u.sc).isSome=true:=by
 unfold bI at h;split at h
 ·rename_i h0;exact absurd h h0
 rename_i h0;split at h
 ·rename_i h1;exact absurd h h1
 rename_i h1;split at h
 ·exact absurd h (by decide)
 rename_i h2;split at h
 ·exact absurd h (by decide)
 ·rename_i h3;refine⟨by simpa using h0,by simpa using h1,by simpa using h2,?_⟩;simpa only[afs,aek]using h3
theorem jS{p:Po}{l:List Sc}(h:bI p l=0)(us:List Us)(n:Nd):FdW (ak us l n):=by
 have hz:FdW zFd:=⟨.inl rfl,by decide,by decide,by decide,by decide⟩
 unfold ak;cases e:findF us l ⟨n.nm,n.attr⟩ with
 |none=>exact hz
 |some q=>
  obtain⟨u,k,f⟩:=q;obtain⟨x,s,_,_,a3,a4,_⟩:=pS e;exact Jf ((nN (eK (cx h).2.1 s (oY a3).1)).2 f (aee a4))
theorem JO{p:Po}{l:List Sc}(h:bI p l=0){r:Rf}(hr:(findF p.uses.l l r).isSome=true):xB (pcR p.uses.l l r)=false:=by
 obtain⟨⟨u,k,f⟩,e⟩:=ae5.1 hr;obtain⟨x,s,a1,_,a3,a4,_⟩:=pS e;have h1:u<p.uses.l.length:=(adW.1 a1).1;have h2:k<s.fields.l.length:=(adW.1 a4).1;have h3:=(nN (eK (cx h).2.1 s (oY a3).1)).1;have h4:p.uses.l.length<=4:=by
  have:=(cx h).1;unfold chk at this;split at this
  ·exact absurd this (by decide)
  ·omega
 simp only[pcR,e,xB,decide_eq_false_iff_not];omega
theorem A4{p:Po}(h:chk p=0):p.aA.l.length<=64∧p.aA.l.Nodup:=by
 unfold chk at h;split at h
 ·exact absurd h (by decide)
 rename_i h0;split at h
 ·exact absurd h (by decide)
 split at h
 ·exact absurd h (by decide)
 split at h
 ·rename_i h1;exact absurd h h1
 split at h
 ·exact absurd h (by decide)
 ·rename_i h2;refine⟨by omega,?_⟩;by_cases q:p.aA.l.Nodup
  ·exact q
  ·exact absurd (.inr q) h2
/- NS. -/
theorem kM{fd:Nd->Fd}{x:Nd}{lo hi:Int}(e:within fd x lo hi=.atom 7 0 [x,bw lo,bw hi]):(fd x).mn<=lo∧lo<=hi∧hi<=(fd x).mx:=by
 unfold within at e;split at e
 ·simp[cB]at e
 split at e
 ·simp[cB]at e
 split at e
 ·simp[dL]at e
 ·simp only[Cd.atom.injEq,aen,bw,Nd.mk.injEq,and_true,true_and]at e;omega
theorem qO{a:Pt}{n:Nat}(h0:0<=a.kind)(h6:a.kind<6)(h:mO a n=true):ptE a n=0:=by
 unfold ptE;rw[if_neg (by omega),if_pos h]
theorem okC{kd a lo:Int}{n:Nat}(hk:kd=0∨kd=1)(ha:0<=a∧a<(n:Int))(hl:0<=lo∧lo<=aU):ptE ⟨kd,a,0,lo,0⟩ n=0:=by
 refine qO (by simp only;omega) (by simp only;omega) ?_;unfold mO;simp only;rw[if_pos hk];simp[ha.1,ha.2,hl.1,hl.2]
theorem okR{a lo hi:Int}{n:Nat}(ha:0<=a∧a<(n:Int))(hl:0<=lo∧lo<=hi∧hi<=aU):ptE ⟨2,a,0,lo,hi⟩ n=0:=by
 refine qO (by simp only;omega) (by simp only;omega) ?_;unfold mO;simp[ha.1,ha.2,hl.1,hl.2.1,hl.2.2]
theorem okS{kd a b:Int}{n:Nat}(hk:kd=3∨kd=4)(ha:0<=a∧a<(n:Int))(hb:0<=b∧b<(n:Int))(hab:a≠b):ptE ⟨kd,a,b,0,0⟩ n=0:=by
 refine qO (by simp only;omega) (by simp only;omega) ?_;unfold mO;simp only;rw[if_neg (by omega),if_neg (by omega),if_pos hk];simp[ha.1,ha.2,hb.1,hb.2,hab]
theorem okD{a b lo hi:Int}{n:Nat}(ha:0<=a∧a<(n:Int))(hb:0<=b∧b<(n:Int))(hab:a≠b)(h1:-aU<=lo)(h2:lo<=hi)(h3:hi<=aU)(h4:hi-lo<=aU):ptE ⟨5,a,b,lo,hi⟩ n=0:=by
 refine qO (by simp only;omega) (by simp only;omega) ?_;unfold mO;simp[ha.1,ha.2,hb.1,hb.2,hab,h1,h2,h3,h4]
theorem Ak{refs:List Rf}{x:Nd}(h:(⟨x.nm,x.attr⟩:Rf)∈refs):refs[ixR refs x]?=some ⟨x.nm,x.attr⟩:=by
 unfold ixR;cases e:refs.findIdx? λr=>decide (r=⟨x.nm,x.attr⟩) with
 |none=>
  rw[List.findIdx?_eq_none_iff]at e;have:=e _ h;simp at this
 |some i=>
  obtain⟨hlt,h1,_⟩:=aeZ.1 e;simp only[aeE];rw[aea hlt];simpa using h1
def inR(refs:List Rf)(v:Nd):Prop:=(⟨v.nm,v.attr⟩:Rf)∈refs
theorem HM{refs:List Rf}{x:Nd}(h:inR refs x):ixR refs x<refs.length:=(adW.1 (Ak h)).1
theorem U7{refs:List Rf}{x y:Nd}(hx:inR refs x)(hy:inR refs y)(hne:¬ (x.nm=y.nm∧x.attr=y.attr)):(ixR refs x:Int)≠(ixR refs y:Int):=λe=>by
 have e':ixR refs x=ixR refs y:=by omega
 have h1:=Ak hx;rw[e',Ak hy]at h1;simp only[fS,Rf.mk.injEq]at h1;exact hne ⟨h1.1.symm,h1.2.symm⟩
section
variable{us:List Us}{l:List Sc}{refs:List Rf}
theorem uF{f:Fd}(h:FdW f):0<=cA f∧cA f<=aU:=by
 obtain⟨h0,h1,h2,h3,h4⟩:=h;unfold cA aU;split
 ·rcases h0 with h0 |h0<;>omega
 ·omega
theorem C7(hf:∀ n,FdW (ak us l n)){x y:Nd}{num:Int}(w:Wt us l num x y)(e:values (ak us l) num x y=dL num x y)(hy:y.k≠9):0<=cY (ak us l x) y∧cY (ak us l x) y<=aU:=by
 obtain⟨ha,h3,hc⟩:=mL w e;have fx:=hf x;rcases hc with⟨kb,h01,hv,a1,a2⟩ |⟨kb,h01,hkd⟩ |⟨kb,_⟩ |⟨kb,_⟩
 ·unfold cY aU;rw[if_pos kb];obtain⟨h0,h1,h2,h3,h4⟩:=fx;omega
 ·unfold cY aU;rw[if_neg (by omega)];cases q:(ak us l x).words.l.findIdx? λv=>decide (v=y.nm) with
  |none=>simp
  |some i=>
   obtain⟨hlt,_,_⟩:=aeZ.1 q;obtain⟨h0,h1,h2,h3,h4⟩:=fx;simp only[aeE];omega
 ·exact absurd kb hy
 ·exact absurd kb hy
theorem U8{x y:Nd}{num:Int}(w:Wt us l num x y)(e:values (ak us l) num x y=dL num x y)(hy:y.k=9):¬ (x.nm=y.nm∧x.attr=y.attr):=by
 obtain⟨ha,h3,hc⟩:=mL w e;rcases hc with⟨kb,_⟩ |⟨kb,_⟩ |⟨kb,hne,_⟩ |⟨kb,hne,_⟩
 ·omega
 ·omega
 ·exact hne
 ·exact hne
theorem Ek(hf:∀ n,FdW (ak us l n)){k num:Int}{vs:List Nd}(h:AtN us l (inR refs) k num vs):∀ a∈jy refs (ak us l) k num vs,far a=false->ptE a refs.length=0∧(k=7->a.kind=2):=by
 obtain⟨x,y,r,rfl,kx,qx,qy,h7,h6,h67,hp⟩:=iE (refs:=refs) hf h;have hx:=HM qx;have sx:=uF (hf x);have sy:=uF (hf y);have fx:=hf x;have fy:=hf y;obtain⟨_,x1,x2,x3,x4⟩:=fx;obtain⟨_,y1,y2,y3,y4⟩:=fy;have two:k=6->y.k=9->ixR refs y<refs.length∧(ixR refs x:Int)≠(ixR refs y:Int):=λhk hy=>by
  obtain⟨rfl,w,e⟩:=h6 hk;exact⟨HM (qy hy),U7 qx (qy hy) (U8 w e hy)⟩
 intro a ha aaF;generalize jy refs (ak us l) k num (x :: y :: r)=P at hp ha;have ff:∀ {kd i j lo hi:Int},a=⟨kd,i,j,lo,hi⟩->hi-lo<=aU:=λe=>by
  rw[e]at aaF;simp only[far,decide_eq_false_iff_not]at aaF;omega
 cases hp with
 |range hk=>
  subst hk;obtain⟨rfl,lo,hi,rfl,rfl,k0⟩:=h7 rfl;have e:=ff (aed.1 ha);rw[aed.1 ha];rcases h.2 with⟨q,_⟩ |⟨_,_,x',lo',hi',ev,_,_,ew⟩
  ·exact absurd q (by decide)
  ·simp only[aen,bw,Nd.mk.injEq,and_true,true_and]at ev;obtain⟨rfl,rfl,rfl⟩:=ev;obtain⟨w1,w2,w3⟩:=kM ew;refine⟨okR (by omega) ?_,λ_=>rfl⟩;simp only[cY,bw,if_true,List.headD_cons]at e ⊢;unfold aU;omega
 |const hk hy hn=>
  obtain⟨rfl,w,e⟩:=h6 hk;rw[aed.1 ha];exact⟨okC hn (by omega) (C7 hf w e hy),λq=>by omega⟩
 |less hk hy hn e0 he hle=>
  obtain⟨t1,t2⟩:=two hk hy;have e:=ff (aed.1 ha);rw[aed.1 ha];refine⟨okD (by omega) (by omega) t2 (by omega) hle ?_ e,λq=>by omega⟩;unfold aU;rcases hn with rfl |rfl<;>simp at he<;>omega
 |same hk hy hn h0=>
  obtain⟨t1,t2⟩:=two hk hy;rw[aed.1 ha];exact⟨okS (by omega) (by omega) (by omega) t2,λq=>by omega⟩
 |off hk hy hn h0=>
  obtain⟨t1,t2⟩:=two hk hy;have e:=ff (aed.1 ha);rw[aed.1 ha];refine⟨okD (by omega) (by omega) t2 ?_ (afk _) ?_ e,λq=>by omega⟩<;>unfold aU<;>omega
 |low hk hy hn h0 h1 h2=>
  obtain⟨t1,t2⟩:=two hk hy;have e:=ff (aed.1 ha);rw[aed.1 ha];refine⟨okD (by omega) (by omega) t2 (by omega) h1 ?_ e,λq=>by omega⟩;unfold aU;omega
 |high hk hy hn h0 h1 h2=>
  obtain⟨t1,t2⟩:=two hk hy;have e:=ff (aed.1 ha);rw[aed.1 ha];refine⟨okD (by omega) (by omega) t2 ?_ h2 (by omega) e,λq=>by omega⟩;unfold aU;omega
 |both hk hy hn h0 h1 h2=>
  obtain⟨t1,t2⟩:=two hk hy;simp only[adY,aeA,or_false]at ha;rcases ha with ha |ha
  ·have e:=ff ha;rw[ha];refine⟨okD (by omega) (by omega) t2 (by omega) h1 ?_ e,λq=>by omega⟩;unfold aU;omega
  ·have e:=ff ha;rw[ha];refine⟨okD (by omega) (by omega) t2 ?_ h2 (by omega) e,λq=>by omega⟩;unfold aU;omega
mutual
theorem Ob(hf:∀ n,FdW (ak us l n)):∀ c:Cd,NF us l (inR refs) c->∀ a∈kZ refs (ak us l) c,far a=false->ptE a refs.length=0
 |.atom k num vs,h,a,ha,hn=>(Ek hf h a ha hn).1
 |.gate need ks,h,a,ha,hn=>qP hf ks (λc hc=>(cu.1 h.2.2.2 c hc).1) a ha hn
theorem qP(hf:∀ n,FdW (ak us l n)):∀ cs:List Cd,(∀ c∈cs,NF us l (inR refs) c)->∀ a∈bq refs (ak us l) cs,far a=false->ptE a refs.length=0
 | [],_,a,ha,_=>by simp[bq]at ha
 |c :: cs,h,a,ha,hn=>by
  simp only[bq,aep]at ha;rcases ha with ha |ha
  ·exact Ob hf c (h c (by simp)) a ha hn
  ·exact qP hf cs (λd hd=>h d (by simp[hd])) a ha hn
end
theorem F7(hf:∀ n,FdW (ak us l n)){c:Cd}(h:NF us l (inR refs) c){a:Pt}(ha:bL refs (ak us l) c=some a):ptE a refs.length=0∧a.kind=2:=by
 cases c with
 |gate need ks=>simp[bL]at ha
 |atom k num vs=>
  have h':=iE (refs:=refs) hf h;simp only[bL]at ha;split at ha
  ·rename_i hk;subst hk;split at ha
   ·rename_i b r e;split at ha
    ·injection ha with ha
     subst ha;obtain⟨x,y,r',rfl,kx,qx,qy,h7,h6,h67,hp⟩:=h';have hm:b∈jy refs (ak us l) 7 num (x :: y :: r'):=by rw[e];simp
     have fb:far b=false:=by
      generalize jy refs (ak us l) 7 num (x :: y :: r')=P at hp hm e;cases hp with
      |range hk=>
       obtain⟨rfl,lo,hi,rfl,rfl,k0⟩:=h7 rfl;rcases h.2 with⟨q,_⟩ |⟨_,_,x',lo',hi',ev,_,_,ew⟩
       ·exact absurd q (by decide)
       ·simp only[aen,bw,Nd.mk.injEq,and_true,true_and]at ev;obtain⟨rfl,rfl,rfl⟩:=ev;obtain⟨w1,w2,w3⟩:=kM ew;obtain⟨_,x1,x2,x3,x4⟩:=hf x;rw[aed.1 hm];simp only[far,cY,bw,if_true,List.headD_cons,decide_eq_false_iff_not];unfold aU;omega
      |const hk=>exact absurd hk (by decide)
      |less hk=>exact absurd hk (by decide)
      |same hk=>exact absurd hk (by decide)
      |off hk=>exact absurd hk (by decide)
      |low hk=>exact absurd hk (by decide)
      |high hk=>exact absurd hk (by decide)
      |both hk=>exact absurd hk (by decide)
     obtain⟨q1,q2⟩:=Ek hf h b hm fb;exact⟨q1,q2 rfl⟩
    ·cases ha
   ·cases ha
  ·cases ha
theorem qQ{n:Nat}:∀ {L:List Pt},(∀ a∈L,ptE a n=0)->vX n L=0
 | [],_=>rfl
 |a :: L,h=>by
  simp only[vX,h a (by simp)];exact qQ λb hb=>h b (by simp[hb])
theorem wu{n:Nat}:∀ {L:List Pt},(∀ a∈L,ptE a n=0∧a.kind=2)->Cg n L=0
 | [],_=>rfl
 |a :: L,h=>by
  simp only[Cg,(h a (by simp)).1,(h a (by simp)).2];exact wu λb hb=>h b (by simp[hb])
theorem A5:fmE [] 0=0:=by decide
theorem RT(hf:∀ n,FdW (ak us l n))(ks:List Cd)(h:∀ c∈ks,NF us l (inR refs) c)(hs:Cd.sizes ks<=500)(hp:(bq refs (ak us l) ks).length<=256) :
  fmE (mo (oW (cm refs (ak us l) ks))) (bq refs (ak us l) ks).length=0:=by
 match ks,h with
 | [],_=>exact A5
 | [c],h=>
  obtain⟨a1,a2,a3⟩:=vD (refs:=refs) hf c (h c (by simp));simp only[Cd.sizes,bq,ael]at hs hp ⊢;simp only[cm,oW,mo];rw[<-a2]at hp ⊢;exact Eh a1 (by omega) hp
 |c :: d :: r,h=>
  obtain⟨a1,a2,a3⟩:=nM (refs:=refs) hf (c :: d :: r) h;have en:oW (cm refs (ak us l) (c :: d :: r))=some (.gate ((c :: d :: r).length:Int) (cm refs (ak us l) (c :: d :: r))):=by
   simp only[cm,oW,ad1,eW]
  rw[en];simp only[mo];have e1:(Fm.gate ((c :: d :: r).length:Int) (cm refs (ak us l) (c :: d :: r))).lvs=(bq refs (ak us l) (c :: d :: r)).length:=by simp only[Fm.lvs];exact a2
  rw[<-e1]at hp ⊢;refine Eh ⟨?_,?_,a1⟩ ?_ hp
  ·simp only[ad1];omega
  ·rw[eW];exact afk _
  ·simp only[Fm.size];omega
theorem LY(hf:∀ n,FdW (ak us l n))(c:Cd)(h:NF us l (inR refs) c)(hs:c.size<=500)(he:pz (eH refs (ak us l) c).1 (eH refs (ak us l) c).2.1=0) :
  vX refs.length (eH refs (ak us l) c).1=0∧Cg refs.length (eH refs (ak us l) c).2.1=0∧fmE (mo (eH refs (ak us l) c).2.2) (eH refs (ak us l) c).1.length=0:=by
 have hA:(eH refs (ak us l) c).1.length<=256∧∀ a∈(eH refs (ak us l) c).1,far a=false:=by
  unfold pz at he;split at he
  ·exact absurd he (by decide)
  rename_i h1;split at he
  ·exact absurd he (by decide)
  ·rename_i h2;refine⟨by omega,λa ha=>?_⟩;simp only[Bool.not_eq_true,List.any_eq_false]at h2;simpa using h2 a ha
 clear he;unfold eH at hA ⊢;cases hw:bL refs (ak us l) c with
 |some a=>
  rw[hw]at hA;simp only;exact⟨rfl,wu λb hb=>by rw[aed.1 hb];exact F7 hf h hw,A5⟩
 |none=>
  rw[hw]at hA;cases c with
  |atom k num ns=>
   obtain⟨a1,a2,a3⟩:=vD (refs:=refs) hf _ h;simp only[fmC,kZ]at a1 a2 a3;simp only at hA ⊢;refine⟨qQ λa ha=>(Ek hf h a ha (hA.2 a ha)).1,rfl,?_⟩;simp only[mo];have:=hA.1;rw[<-a2]at this ⊢;exact Eh a1 (by omega) this
  |gate need ks=>
   have hk:∀ c∈ks,NF us l (inR refs) c:=λc hc=>(cu.1 h.2.2.2 c hc).1
   simp only at hA ⊢;by_cases hn:need=(ks.length:Int)
   ·rw[if_pos hn]at hA ⊢;have hk':∀ c∈narrow refs (ak us l) ks,NF us l (inR refs) c:=λc hc=>hk c (ku hc)
    have h1:=iF refs (ak us l) ks;simp only[Cd.size]at hs;refine⟨qQ λa ha=>qP hf _ hk' a ha (hA.2 a ha),wu λa ha=>?_,RT hf _ hk' (by omega) hA.1⟩;obtain⟨c,hc,e⟩:=List.mem_filterMap.1 ha;exact F7 hf (hk c hc) e
   ·rw[if_neg hn]at hA ⊢;obtain⟨a1,a2,a3⟩:=nM (refs:=refs) hf ks hk;refine⟨qQ λa ha=>qP hf _ hk a ha (hA.2 a ha),rfl,?_⟩;simp only[mo];have e1:(Fm.gate need (cm refs (ak us l) ks)).lvs=(bq refs (ak us l) ks).length:=by simp only[Fm.lvs];exact a2
    have:=hA.1;simp only at this ⊢;rw[<-e1]at this ⊢;refine Eh ⟨h.2.1,by rw[eW];exact h.2.2.1,a1⟩ ?_ this;simp only[Fm.size,Cd.size]at hs ⊢;omega
end
theorem N7{p:Po}{l:List Sc}(h:bI p l=0)(hv:∀ r∈p.aA.l,(findF p.uses.l l r).isSome=true){refs:List Rf}(hd:refs.Nodup)(hl:refs.length<=64)(hr:∀ r∈refs,(findF p.uses.l l r).isSome=true)
  {A S:List Pt} {F:Option Fm} {na nc ns nd:Bool} (he:pz A S=0) (h1:vX refs.length A=0) (h2:Cg refs.length S=0) (h3:fmE (mo F) A.length=0) :
  Ah ⟨⟨nd,p.aA.l.map (pcR p.uses.l l)⟩,⟨nc,refs.map (pcR p.uses.l l)⟩,⟨na,A⟩,bK F,⟨ns,S⟩⟩=0:=by
 obtain⟨r1,r2⟩:=A4 (cx h).1;unfold pz at he;split at he
 ·exact absurd he (by decide)
 rename_i h0;unfold Ah;simp only[ad6,Oc];rw[if_neg (by omega),if_neg,if_neg,if_neg (by simp[h3]),if_neg (by simp[h1])]
 ·exact h2
 ·rw[Ig _ r2 hv,Ig _ hd hr];simp
 ·simp only[Bool.not_eq_true,List.any_eq_false,aep,aeg];rintro x (⟨r,hr',rfl⟩ |⟨r,hr',rfl⟩)
  ·simp[JO h (hv r hr')]
  ·simp[JO h (hr r hr')]
theorem A7:∀ (l:List Tr) (acc:List Rf),acc.Nodup->(l.foldl (λacc s=>oK acc s.n) acc).Nodup
 | [],acc,h=>h
 |s :: l,acc,h=>by
  refine A7 l (oK acc s.n) ?_;unfold oK;split
  ·split
   ·exact h
   ·rename_i hm;rw[aeQ];exact⟨h,by simp,λa ha b hb=>by
     rw[aed.1 hb];rintro rfl;exact hm ha⟩
  ·exact h
theorem F8{p:Po}{t:Tr}(h:IsT p.nodes.l t):(bW p t).Nodup:=by
 rw[JP h];exact A7 _ [] List.nodup_nil
theorem pJ{α:Type}[DecidableEq α]:∀ (a b:List α),a.Nodup->(∀ x∈a,x∈b)->a.length<=b.length
 | [],b,_,_=>by simp
 |x :: a,b,h,hs=>by
  rw[afq]at h;have:=pJ a (b.erase x) h.2 λy hy=>by
   refine (List.mem_erase_of_ne ?_).2 (hs y (by simp[hy]));rintro rfl;exact h.1 hy
  have h2:=afM (hs x (by simp));have h3:=List.length_pos_of_mem (hs x (by simp));simp only[ad1];omega
end Go.Ab.Pol
/-
  The atoms of a condition of a normal form.
-/
namespace Go.Ab.Pn
open Go.Ab.Pol
set_option maxRecDepth 100000
set_option maxHeartbeats 4000000
theorem adi{K:Cfg}{O:Orc}(a b c d r:CC)(s:St):evC K O (.seq a (.seq b (.seq c (.seq d r)))) s=goS K O r (evC K O (.seq a (.seq b (.seq c d))) s):=by
 simp only[fF];cases evC K O a s with
 |none=>rfl
 |some q=>
  obtain⟨ex,s1⟩:=q;cases ex<;>simp only[goS,fF]
  cases evC K O b s1 with
  |none=>rfl
  |some q=>
   obtain⟨ex,s2⟩:=q;cases ex<;>simp only[goS,fF]
   cases evC K O c s2 with
   |none=>rfl
   |some q=>
    obtain⟨ex,s3⟩:=q;cases ex<;>simp only[goS,fF]
theorem aaA{K:Cfg}{O:Orc}(a b r:CC)(s:St):evC K O (.seq a (.seq b r)) s=goS K O r (evC K O (.seq a b) s):=by
 simp only[fF];cases evC K O a s with
 |none=>rfl
 |some q=>
  obtain⟨ex,s1⟩:=q;cases ex<;>simp only[goS,fF]
section
variable{us:List Us}{l:List Sc}(nodes:Sl Nd)(refs:List Rf)(Q:Nd->Prop)(hQ:∀ v,Q v->Q (aP v))(h:Heap)(b:Loc)(m:Mk nodes (ak us l) refs Q h b)
include m
theorem U9(n:Nd)(B:Loc):evC K (mu K) Od ⟨dc 0 [.ptr B 0,n.av],[] :: h⟩=some (.norm,⟨[(4,.aj),(3,.ptr (h.length,0) 0),(0,.ptr B 0),(1,n.av)],[.box 90 false n.av] :: h⟩):=by
 have qk:=ay _ bJ n.kids;simp[Od,KL,aa]
theorem JQ(n:Nd)(i j:Nat)(r:List AV)(x y:Nd)(hk:n.kids.avS iV=.lst (iV (i:Int) :: iV (j:Int) :: r))(hx:nodes.l[i]?=some x)(hy:nodes.l[j]?=some y)(qx:Q x) :
  ∃ (env:Env) (c:Loc) (ws:List (AV×AV)),El env b h.length∧hget h c=some (.map ws)∧WdM (ak us l x) ws ∧
   (mu K).fn 141 [.ptr b 0,n.av] h=goF rF.res (evC K (mu K) (.seq uG (.seq A8 (.seq JR (.seq JS (.seq JT (.seq JU (.seq uH (.seq A9 tB))))))))
    ⟨env,[.box 90 false n.av,.box 102 false (iG (ixR refs x:Int) (ak us l x) (.mp c)),.box 90 false y.av] :: h⟩):=by
 obtain⟨c,ws,c1,c2,c3⟩:=m.f183 hx qx;obtain⟨env,k1,g1⟩:=aaG nodes (ak us l) refs Q h b m n i j r x y hk hx hy qx c (lC c1) c3 [(4,.aj),(3,.ptr (h.length,0) 0),(0,.ptr b 0),(1,n.av)] rfl rfl;refine⟨env,c,ws,g1,c1,c2,?_⟩;rw[aB (KX _ _ _) Y7 Oe (by simp[rF])];rw[fF,U9 nodes refs Q h b m n b,cR,fF,k1,cR]
include hQ
theorem f141{k num:Int}{vs:List Nd}(hA:AtN us l Q k num vs)(b0:Nat)(hat:∀ (j:Nat) (v:Nd),vs[j]?=some v->nodes.l[b0+1+j]?=some (aP v)) :
  (mu K).fn 141 [.ptr b 0,(bC b0 k num vs.length).av] h=some (.val (.lst ((jy refs (ak us l) k num vs).map Pt.av)) h):=by
 have hf:=m.hf;have hl:=Em (us:=us) (l:=l);obtain⟨qv,hA⟩:=hA;rcases hA with⟨rfl,a,b',rfl,w,e⟩ |⟨rfl,rfl,x,lo,hi,rfl,kx,hv,e⟩
 ·obtain⟨ka,h3,hc⟩:=mL w e;have hx:=hat 0 a rfl;have hy:=hat 1 b' rfl;have hk:(bC b0 6 num 2).kids.avS iV=.lst [iV ((b0+1+0:Nat):Int),iV ((b0+1+1:Nat):Int)]:=by simp[bC,upI,Sl.avS,List.range_succ]
  obtain⟨env,c,ws,g1,c1,c2,start⟩:=JQ nodes refs Q h b m (bC b0 6 num 2) (b0+1+0) (b0+1+1) [] (aP a) (aP b') hk hx hy (hQ a (qv a (by simp) ka));have e3:jy refs (ak us l) 6 num [a,b']=vN refs (ak us l) 6 num (aP a) (aP b') (aP (bw 0)):=by
   rw[L1 refs (ak us l) hl];rfl
  rw[e3];have start:(mu K).fn 141 [.ptr b 0,(bC b0 6 num [a,b'].length).av] h=_:=start;rw[start];have ky:b'.k=9∨b'.k≠9:=by omega
  rcases ky with ky |ky
  ·obtain⟨c',ws',d1,d2,d3⟩:=m.f183 hy (hQ b' (qv b' (by simp) ky));obtain⟨nO,k2,g2⟩:=RU nodes (ak us l) refs Q h b m (bC b0 6 num 2) rfl (aP a) (aP b') ky (iG (ixR refs (aP a):Int) (ak us l (aP a)) (.mp c)) env g1;obtain⟨RG,k3,g3⟩:=RV nodes (ak us l) refs Q h b m (bC b0 6 num 2) (b0+1+0) (b0+1+1) [] (aP a) (aP b') hk hy (hQ b' (qv b' (by simp) ky)) c c' (lC d1) d3 nO g2;rw[aaA,k2,cR,adi,k3,cR];exact Va nodes (ak us l) refs Q h b m (bC b0 6 num 2) (by simp only[bC];omega) (aP a) (aP b') c c' RG g3 (aP (bw 0)) rfl ky
  ·have adj:b'.k=10∨b'.k=11:=by
    rcases hc with⟨kb,_⟩ |⟨kb,_⟩ |⟨kb,_⟩ |⟨kb,_⟩
    ·exact .inl kb
    ·exact (w.2.2.1.resolve_left ky)
    ·exact absurd kb ky
    ·exact absurd kb ky
   have h01:num=0∨num=1:=by
    rcases hc with⟨kb,q,_⟩ |⟨kb,q,_⟩ |⟨kb,_⟩ |⟨kb,_⟩
    ·exact q
    ·exact q
    ·exact absurd kb ky
    ·exact absurd kb ky
   have hyn:b'.k=10->-1099511627776<=b'.num∧b'.num<=1099511627776:=λq=>by
    obtain⟨_,_,x1,x2,_⟩:=hf a;rcases hc with⟨kb,_,_,y1,y2⟩ |⟨kb,_,hkd⟩ |⟨kb,_⟩ |⟨kb,_⟩
    ·omega
    ·exfalso;obtain⟨_,_,_,vx,vy,e1,e2,e4,_⟩:=w;have hyn:cg us l b'=some .num:=by unfold cg;rw[if_pos q]
     rw[hyn]at e2;injection e2 with e2
     subst e2;cases vx with
     |num=>exact hkd (mM ka e1)
     |wd w=>exact absurd e4 (by simp[aT])
     |fw w=>exact absurd e4 (by simp[aT])
    ·exact absurd kb ky
    ·exact absurd kb ky
   rw[Vb nodes (ak us l) refs Q h b m (bC b0 6 num 2) (aP a) (aP b') rfl h01 adj hyn c ws c1 c2 env g1];unfold vN;rw[if_neg (by decide),if_pos (show (aP b').k≠9 from ky)];rcases h01 with rfl |rfl<;>rfl
 ·have hx:=hat 0 x rfl;have hy:=hat 1 (bw lo) rfl;have hz:=hat 2 (bw hi) rfl;obtain⟨w1,w2,w3⟩:=kM e;obtain⟨_,_,x1,x2,_⟩:=hf x;have hk:(bC b0 7 0 3).kids.avS iV=.lst [iV ((b0+1+0:Nat):Int),iV ((b0+1+1:Nat):Int),iV ((b0+1+2:Nat):Int)]:=by simp[bC,upI,Sl.avS,List.range_succ]
  obtain⟨env,c,ws,g1,c1,c2,start⟩:=JQ nodes refs Q h b m (bC b0 7 0 3) (b0+1+0) (b0+1+1) [iV ((b0+1+2:Nat):Int)] (aP x) (aP (bw lo)) hk hx hy (hQ x (qv x (by simp) kx));have start:(mu K).fn 141 [.ptr b 0,(bC b0 7 0 [x,bw lo,bw hi].length).av] h=_:=start;rw[start,Vc nodes (ak us l) refs Q h b m (bC b0 7 0 3) (b0+1+0) (b0+1+1) (b0+1+2) (aP x) (aP (bw lo)) (aP (bw hi)) hk rfl hz (.inl rfl) (.inl rfl) (λ_=>by simp only[aP,bw];omega) (λ_=>by simp only[aP,bw];omega) c ws c1 c2 env g1];rfl
end
end Go.Ab.Pn
/-
  The Js lists;a range that is proved by squares.
-/
namespace Go.Ab.Pn
open Go.Ab.Pol
set_option maxRecDepth 100000
set_option maxHeartbeats 4000000
theorem qR:∀ (h:Heap) (a b:Loc) (B C:Blk),a≠b->aR (aR h a B) b C=aR (aR h b C) a B
 | [],_,_,_,_,_=>rfl
 |f :: o,a,b,B,C,hn=>by
  by_cases e:a.1=o.length
  ·by_cases e':b.1=o.length
   ·have:a.2≠b.2:=λq=>hn (Prod.ext (by omega) q)
    simp[aR,e,e',List.set_comm _ _ this]
   ·simp[aR,e,e',bt]
  ·by_cases e':b.1=o.length
   ·simp[aR,e,e',bt]
   ·simp[aR,e,e',bt,qR o a b B C hn]
theorem fM{h:Heap}{a b:Loc}(hn:a≠b)(B:Blk):hget (aR h a B) b=hget h b:=by
 rw[fV,if_neg λq=>hn q.1.symm]
theorem Ba{h:Heap}{a c:Loc}{B:Blk}(d:dom h c):dom (aR h a B) c:=(bz h a c B).2 d
def mkB(nodes:Sl Nd)(am:Loc)(D C:AV)(aL sL:Loc)(an sn:Nat):Blk:=.box 95 false (.agg [nodes.avS Nd.av,.mp am,D,C,.own aL an,.aj,.own sL sn])
structure Pls (nodes:Sl Nd)(fd:Nd->Pol.Fd)(refs:List Rf)(Q:Nd->Prop)(h:Heap)(b am aL sL:Loc):Prop where
 hf:∀ n,FdW (fd n)
 len:nodes.l.length<=1000
 db:dom h b
 da:dom h aL
 ds:dom h sL
 ba:b≠aL
 bs:b≠sL
 asn:aL≠sL
 lea:aL.1<=b.1
 les:sL.1<=b.1
 mp:∃ es:List (AV×AV),hget h am=some (.map es)∧am≠b∧am≠aL∧am≠sL ∧
  ∀ x,Q x->∃ (c:Loc) (ws:List (AV×AV)),hget h c=some (.map ws)∧c≠b∧c≠aL∧c≠sL∧WdM (fd x) ws∧fY (.st [.str,.str]) (.agg [.str x.nm,.str x.attr]) es=some (some (iG (ixR refs x:Int) (fd x) (.mp c)))
section
variable(nodes:Sl Nd)(fd:Nd->Pol.Fd)(refs:List Rf)(Q:Nd->Prop)(h:Heap)(b am aL sL:Loc)(D C:AV)
def bg(A S:List Pt):Heap:=aR (aR (aR h aL (ptB A)) sL (ptB S)) b (mkB nodes am D C aL sL A.length S.length)
theorem dX(A S:List Pt):(bg nodes h b am aL sL D C A S).length=h.length:=by simp[bg,bt]
variable(m:Pls nodes fd refs Q h b am aL sL)
include m
theorem Bb{a:Loc}(h1:a≠b)(h2:a≠aL)(h3:a≠sL)(A S:List Pt):hget (bg nodes h b am aL sL D C A S) a=hget h a:=by
 unfold bg;rw[fM h1.symm,fM h3.symm,fM h2.symm]
theorem pT(A S:List Pt):hget (bg nodes h b am aL sL D C A S) b=some (mkB nodes am D C aL sL A.length S.length):=by
 unfold bg;rw[jw];exact Ba (Ba m.db)
theorem Vd(A S:List Pt):hget (bg nodes h b am aL sL D C A S) aL=some (ptB A):=by
 unfold bg;rw[fM m.ba,fM m.asn.symm,jw m.da]
theorem Ve(A S:List Pt):hget (bg nodes h b am aL sL D C A S) sL=some (ptB S):=by
 unfold bg;rw[fM m.bs,jw];exact Ba m.ds
theorem L3(A A' S:List Pt):aR (aR (bg nodes h b am aL sL D C A S) aL (ptB A')) b (mkB nodes am D C aL sL A'.length S.length)=bg nodes h b am aL sL D C A' S:=by
 unfold bg;rw[qR _ b aL _ _ m.ba,fc,qR _ sL aL _ _ m.asn.symm,fc]
theorem L4(A S S':List Pt):aR (aR (bg nodes h b am aL sL D C A S) sL (ptB S')) b (mkB nodes am D C aL sL A.length S'.length)=bg nodes h b am aL sL D C A S':=by
 unfold bg;rw[qR _ b sL _ _ m.bs,fc,fc]
theorem JV(A S:List Pt):Mk nodes fd refs Q (bg nodes h b am aL sL D C A S) b:=by
 obtain⟨es,h1,h2,h3,h4,h5⟩:=m.mp;refine⟨m.hf,m.len,am,[D,C,.own aL A.length,.aj,.own sL S.length],es,pT nodes fd refs Q h b am aL sL D C m A S,?_,λx hx=>?_⟩
 ·rw[Bb nodes fd refs Q h b am aL sL D C m h2 h3 h4];exact h1
 ·obtain⟨c,ws,c1,c2,c3,c4,c5,c6⟩:=h5 x hx;exact⟨c,ws,by rw[Bb nodes fd refs Q h b am aL sL D C m c2 c3 c4];exact c1,c5,c6⟩
end
section
variable{us:List Us}{l:List Sc}(nodes:Sl Nd)(refs:List Rf)(Q:Nd->Prop)(hQ:∀ v,Q v->Q (aP v))(h:Heap)(b am aL sL:Loc)(D C:AV)(m:Pls nodes (ak us l) refs Q h b am aL sL)
include m
theorem qT(A S:List Pt):(b.1=(bg nodes h b am aL sL D C A S).length)=False∧(aL.1=(bg nodes h b am aL sL D C A S).length)=False∧(sL.1=(bg nodes h b am aL sL D C A S).length)=False ∧
  ((bg nodes h b am aL sL D C A S).length=b.1)=False∧((bg nodes h b am aL sL D C A S).length=aL.1)=False∧((bg nodes h b am aL sL D C A S).length=sL.1)=False:=by
 have h1:=kF m.db;have h2:=kF m.da;have h3:=kF m.ds;rw[dX];refine⟨?_,?_,?_,?_,?_,?_⟩<;>(simp;omega)
theorem Ih(n:Nd)(hk:n.k≠7)(A S:List Pt):(mu K).fn 88 [.ptr b 0,n.av] (bg nodes h b am aL sL D C A S)=some (.val (.bool false) (bg nodes h b am aL sL D C A S)):=by
 have qk:=ay _ bJ n.kids;rw[aB (KX _ _ _) YC rfl (by simp[c88])];simp[c88,KL,aa,hk]
theorem aaH(n:Nd)(hk:n.k=7)(a:Pt)(A S:List Pt)(ha:-4611686018427387904<=a.hi-a.lo∧a.hi-a.lo<=4611686018427387904)(hs:S.length<=100000)
  (vT:∀ F:List Blk,(mu K).fn 141 [.ptr b 0,n.av] (F :: bg nodes h b am aL sL D C A S)=some (.val (.lst [a.av]) (F :: bg nodes h b am aL sL D C A S))) :
  (mu K).fn 88 [.ptr b 0,n.av] (bg nodes h b am aL sL D C A S)=some (.val (.bool (decide (64<=a.hi-a.lo))) (bg nodes h b am aL sL D C A (S++if 64<=a.hi-a.lo then [a] else []))):=by
 obtain⟨nk,nn,n1',n2',nks,np⟩:=n;simp only at hk;subst hk;have qk:=ay _ bJ nks;have w:IntKind.i64.wrap (a.hi-a.lo)=a.hi-a.lo:=wrap64 (by omega) (by omega);obtain⟨n1,n2,n3,n4,n5,n6⟩:=qT nodes refs Q h b am aL sL D C m A S;have gb:=pT nodes (ak us l) refs Q h b am aL sL D C m A S;have gs:=Ve nodes (ak us l) refs Q h b am aL sL D C m A S;have st:=L4 nodes (ak us l) refs Q h b am aL sL D C m A S (S++[a]);have r1:(S.length+1)*40<=room:=by unfold room;omega
 have r2:S.length+1<=room:=by unfold room;omega
 obtain⟨ot,oz,ho,hz⟩:=pU S;have ho2:=F9 S a;have q3:=ay _ dK nodes;generalize hH:bg nodes h b am aL sL D C A S=H at *
 have les:=m.les;have ob:=λX=>fM (h:=H) (Ne.symm m.bs) X
 simp only[mkB]at gb st;rw[ho]at gs;rw[ho2]at st;rw[aB (KX _ _ _) YC rfl (by simp[c88])];by_cases c:64<=a.hi-a.lo
 ·have c':(a.hi-a.lo<64)=False:=eq_false (by omega);simp only[ad9,ad1,adZ,ad7]at st;simp[c88,KL,aa,vT,hget,aR,n1,n2,n3,n4,n5,n6,gb,gs,ob,les,st,w,c,c',r1,r2,hz,qk,q3]
 ·have c':(a.hi-a.lo<64)=True:=eq_true (by omega);simp[c88,KL,aa,vT,hget,aR,w,c,c',hH]
end
end Go.Ab.Pn
/-
  Joining formulas: a adk kids are moved.
-/
namespace Go.Ab.Pn
open Go.Ab.Pol
set_option maxRecDepth 100000
set_option maxHeartbeats 4000000
theorem qU(T R:List Blk)(i:Nat):(T++R)[T.length+i]?=R[i]?:=by rw[aez (by omega)];congr 1;omega
theorem pV(T R:List Blk):(T++R)[T.length]?=R[0]?:=qU T R 0
theorem qV(T R:List Blk)(i:Nat)(B:Blk):(T++R).set (T.length+i) B=T++R.set i B:=by
 rw[afL _ _ (by omega)];congr 2;omega
theorem pW(T R:List Blk)(B:Blk):(T++R).set T.length B=T++R.set 0 B:=qV T R 0 B
theorem aaI(e:AV)(es:List AV)(hs:es.length<=1000)(he:∀ x∈e :: es,x.cells.length=1)(T:List Blk)(h:Heap) :
  (mu K).fn 187 [.lst (e :: es)] (T :: h)=some (.val (.own (h.length,T.length) (es.length+1)) ((T++[.arr 3 1 false (e :: es)]) :: h)):=by
 have r1:(es.length+1)*8<=room:=by unfold room;omega
 have r2:es.length+1<=room:=by unfold room;omega
 have h1:=he e (by simp);have h2:∀ x∈es,x.cells.length=1:=λx hx=>he x (by simp[hx])
 rw[aB (KXc _ _ _ (by decide) (by simp)) S4 rfl (by simp[MJ])];have h3:(∀ x,x∈es->x.cells.length=1)=True:=eq_true h2;simp[MJ,KL,aa,r1,r2,h1,h3]
theorem aaJ(T:List Blk)(h:Heap):(mu K).fn 187 [.aj] (T :: h)=some (.val .aj (T :: h)):=by
 rw[aB (KXc _ _ _ (by decide) (by simp)) S4 rfl (by simp[MJ])];simp[MJ,KL,aa]
theorem C8(a4 a10 a11 a15 a17 a63 a64 a65 a82 a83 a84:AV)(d:Nat)(ks:List Int)(hk:ks.length<=1000)(hd:d<=1000)(hb:∀ k∈ks,0<=k∧k<=1000)(nd lf:AV)(hn1:nd.cells.length=1∧nd.isAgg=false)(B17:Blk)(T:List Blk)(h:Heap) :
  ∀ (s pre:List Int),ks=pre++s->∃ env,
   (mu K).code (.af (T.length+3) [4,10,11,14,15,17,18,63,64,65,82,83,84,96,97] jY) ⟨[(4,a4),(10,a10),(11,a11),(14,iV (d:Int)),(15,a15),(17,a17),(18,.ptr (h.length,T.length+2) 0),(63,a63),(64,a64),(65,a65),(82,a82),(83,a83),(84,a84),(96,iV (ks.length:Int)),(97,iV (pre.length:Int))],
    (T++[B17,.arr 3 1 false (pre.map (λk=>iV (k+(d:Int)))++s.map iV),.box 140 false (.agg [nd,.own (h.length,T.length+1) ks.length,lf])]) :: h⟩ =
   some (.exit 6,⟨env,(T++[B17,.arr 3 1 false (ks.map λk=>iV (k+(d:Int))),.box 140 false (.agg [nd,.own (h.length,T.length+1) ks.length,lf])]) :: h⟩) ∧
   get env 4=a4∧get env 10=a10∧get env 11=a11∧get env 14=iV (d:Int)∧get env 15=a15∧get env 17=a17∧get env 18=.ptr (h.length,T.length+2) 0∧get env 63=a63∧get env 64=a64∧get env 65=a65∧get env 82=a82∧get env 83=a83∧get env 84=a84
 | [],pre,e=>by
  rw[ael]at e;subst e;rw[au];generalize (mu K).code (.af (T.length+3) [4,10,11,14,15,17,18,63,64,65,82,83,84,96,97] jY)=F;simp[jY]
 |k :: s,pre,e=>by
  have ih:=C8 a4 a10 a11 a15 a17 a63 a64 a65 a82 a83 a84 d ks hk hd hb nd lf hn1 B17 T h s (pre++[k]) (by simp[e]);have hl:ks.length=pre.length+(s.length+1):=by rw[e];simp
  obtain⟨k0,k1⟩:=hb k (by rw[e];simp);have c1:((pre.length:Int)<(ks.length:Int))=True:=eq_true (by omega);have w1:IntKind.i64.wrap (k+(d:Int))=k+(d:Int):=wrap64 (by omega) (by omega);have w2:IntKind.i64.wrap ((pre.length:Int)+1)=(pre.length:Int)+1:=wrap64 (by omega) (by omega);have e1:(pre.map (λk=>iV (k+(d:Int)))++iV k :: s.map iV)[pre.length]?=some (iV k):=by
   rw[aez (by simp)];simp
  have e2:(pre.map (λk=>iV (k+(d:Int)))++iV k :: s.map iV).set pre.length (iV (k+(d:Int)))=pre.map (λk=>iV (k+(d:Int)))++iV (k+(d:Int)) :: s.map iV:=by
   rw[afL _ _ (by simp)];simp
  have e3:(pre.map (λk=>iV (k+(d:Int)))++iV k :: s.map iV).length=ks.length:=by simp;omega
  rw[au];generalize (mu K).code (.af (T.length+3) [4,10,11,14,15,17,18,63,64,65,82,83,84,96,97] jY)=F at *
  simp only[aey,Io,aei,aeH,List.singleton_append,ad9,ad1,adZ,ad7]at ih;simp only[Io];rw[show ((pre.length+1:Nat):Int)=(pre.length:Int)+1 by omega]at ih;simp[jY,c1,qU,qV,e1,e2,e3,hn1,w1,w2];exact ih
end Go.Ab.Pn
/-
  Joining formulas: a W7 gates are moved.
-/
namespace Go.Ab.Pn
open Go.Ab.Pol
set_option maxRecDepth 100000
set_option maxHeartbeats 4000000
theorem Ii(N:Nat)(env:Env)(H:Heap)(h1:get env 96=iV 0)(h2:get env 97=iV 0):(mu K).code (.af N [4,10,11,14,15,17,18,63,64,65,82,83,84,96,97] jY) ⟨env,H⟩=some (.exit 6,⟨(98,.bool false) :: env,H⟩):=by
 rw[au];generalize (mu K).code (.af N [4,10,11,14,15,17,18,63,64,65,82,83,84,96,97] jY)=F;simp[jY,h1,h2]
def GtJ(g:Gt):Prop:=g.kids.nl=true∧g.kids.l.length<=1000∧(∀ k∈g.kids.l,0<=k∧k<=1000)∧0<=g.leaf∧g.leaf<=1000
theorem wz(p:Loc->Bool):∀ l:List Gt,AV.bQ p (l.map Gt.av)=true
 | []=>rfl
 |g :: l=>by
  have:=wz p l;simp only[Io,AV.bQ,this,ae3];simp[AV.aJ,AV.bQ]
theorem Og(pg:List Gt)(g:Gt):lvG (pg++[g])=lvG pg+if g.kids.l=[] then 1 else 0:=by
 rw[JJ]
 congr 1
 unfold lvG;by_cases c:g.kids.l=[]<;>simp[c]
theorem tC(p:Loc->Bool):∀ a b:List AV,AV.bQ p (a++b)=(AV.bQ p a&&AV.bQ p b)
 | [],b=>rfl
 |x :: a,b=>by simp only[ad4,AV.bQ,tC p a b,Bool.and_assoc]
section
variable(a4 a63 a64 a65:AV)(p63:a63.pure=true)(p64:a64.pure=true)(p65:a65.pure=true)(d e:Nat)(hd:d<=1000)(he:e<=1000)
 (R:List Blk) (hR:∀ p,R.all (Blk.aJ p)=true) (rt:AV) (h:Heap) (p4:a4.aJ (λa=>!(a.1==h.length) ||decide (a.2<R.length+2))=true) (hrt:rt.aJ (λa=>!(a.1==h.length) ||decide (a.2<R.length+2))=true) (hrc:rt.cells.length=3)
include p4 p63 p64 p65 hd he hR hrt hrc
theorem Ij(gs pg sg:List Gt)(g:Gt)(hgs:gs=pg++g :: sg)(hgl:gs.length<=1000)(hg:GtJ g)(hk:g.kids.l=[])(G:List Gt)(hG:G.length<=100000)(cnt:Nat)(hc:cnt<=1000) :
  (mu K).code (.af (R.length+2) [4,10,11,14,15,63,64,65,82,83,84] iZ) ⟨[(4,a4),(10,.own (h.length,1) (G.length+1)),(11,iV (e:Int)),(14,iV (d:Int)),(15,iV (cnt:Int)),(63,a63),(64,a64),(65,a65),(82,.lst (gs.map Gt.av)),(83,iV (gs.length:Int)),(84,iV (pg.length:Int))],(.box 34 false (.agg [.aj]) :: .arv 140 3 (rt :: G.map Gt.av) :: R) :: h⟩ =
  (mu K).code (.af (R.length+2) [4,10,11,14,15,63,64,65,82,83,84] iZ) ⟨[(4,a4),(10,.own (h.length,1) ((G++[dw d e g]).length+1)),(11,iV (e:Int)),(14,iV (d:Int)),(15,iV ((cnt+1:Nat):Int)),(63,a63),(64,a64),(65,a65),(82,.lst (gs.map Gt.av)),(83,iV (gs.length:Int)),(84,iV ((pg++[g]).length:Int))],(.box 34 false (.agg [.aj]) :: .arv 140 3 (rt :: (G++[dw d e g]).map Gt.av) :: R) :: h⟩:=by
 obtain⟨g1,g2,g3,g4,g5⟩:=hg;have hl:gs.length=pg.length+(sg.length+1):=by rw[hgs];simp
 have c1:((pg.length:Int)<(gs.length:Int))=True:=eq_true (by omega);have e1:=λ(q:IntKind)=>dU (sz:=3) (l:=gs.map Gt.av) (k:=q) (j:=(pg.length:Int)) (v:=g.av) (by omega) (by rw[hgs];simp) rfl
 have ek:g.kids.avS iV=.aj:=by simp[Sl.avS,hk,g1,lv]
 have pd:g.av=.agg [iV g.need,.aj,iV g.leaf]:=by rw[<-ek]
 have w1:IntKind.i64.wrap (g.leaf+(e:Int))=g.leaf+(e:Int):=wrap64 (by omega) (by omega);have w2:IntKind.i64.wrap ((pg.length:Int)+1)=(pg.length:Int)+1:=wrap64 (by omega) (by omega);have w3:IntKind.i64.wrap ((cnt:Int)+1)=(cnt:Int)+1:=wrap64 (by omega) (by omega);have k1:=λenv H=>Ii (R.length+2+2) env H
 have Vf:=aaJ;have r1:(G.length+1+1)*40<=room:=by unfold room;omega
 have r2:G.length+1+1<=room:=by unfold room;omega
 have es:(dw d e g).av=.agg [iV g.need,.aj,iV (g.leaf+(e:Int))]:=by
  unfold dw;rw[if_pos hk];simp[Gt.av,Sl.avS,hk,g1,lv]
 have q1:=wz (λa=>!(a.1==h.length) ||decide (a.2<R.length+2)) G;have q3:=hR (λa=>!(a.1==h.length) ||decide (a.2<R.length+2));have q63:=fu a63 p63;have q64:=fu a64 p64;have q65:=fu a65 p65;rw[pd]at e1;rw[au];generalize (mu K).code (.af (R.length+2) [4,10,11,14,15,63,64,65,82,83,84] iZ)=F at *
 simp only[aey,Io,aei,es];simp[iZ,KL,aa,c1,e1,Vf,k1,w1,w2,w3,qU,pV,qV,pW,r1,r2,q1,q3,p4,q63,q64,q65,hrt,hrc,tC]
theorem Ga(gs pg sg:List Gt)(g:Gt)(hgs:gs=pg++g :: sg)(hgl:gs.length<=1000)(hg:GtJ g)(hk:g.kids.l≠[])(G:List Gt)(hG:G.length<=100000)(cnt:Nat)(hc:cnt<=1000) :
  (mu K).code (.af (R.length+2) [4,10,11,14,15,63,64,65,82,83,84] iZ) ⟨[(4,a4),(10,.own (h.length,1) (G.length+1)),(11,iV (e:Int)),(14,iV (d:Int)),(15,iV (cnt:Int)),(63,a63),(64,a64),(65,a65),(82,.lst (gs.map Gt.av)),(83,iV (gs.length:Int)),(84,iV (pg.length:Int))],(.box 34 false (.agg [.aj]) :: .arv 140 3 (rt :: G.map Gt.av) :: R) :: h⟩ =
  (mu K).code (.af (R.length+2) [4,10,11,14,15,63,64,65,82,83,84] iZ) ⟨[(4,a4),(10,.own (h.length,1) ((G++[dw d e g]).length+1)),(11,iV (e:Int)),(14,iV (d:Int)),(15,iV (cnt:Int)),(63,a63),(64,a64),(65,a65),(82,.lst (gs.map Gt.av)),(83,iV (gs.length:Int)),(84,iV ((pg++[g]).length:Int))],(.box 34 false (.agg [.aj]) :: .arv 140 3 (rt :: (G++[dw d e g]).map Gt.av) :: R) :: h⟩:=by
 obtain⟨g1,g2,g3,g4,g5⟩:=hg;have hl:gs.length=pg.length+(sg.length+1):=by rw[hgs];simp
 have c1:((pg.length:Int)<(gs.length:Int))=True:=eq_true (by omega);have e1:=λ(q:IntKind)=>dU (sz:=3) (l:=gs.map Gt.av) (k:=q) (j:=(pg.length:Int)) (v:=g.av) (by omega) (by rw[hgs];simp) rfl
 have ek:g.kids.avS iV=.lst (g.kids.l.map iV):=by rw[Sl.avS,jK];simpa using hk
 have pd:g.av=.agg [iV g.need,.lst (g.kids.l.map iV),iV g.leaf]:=by rw[<-ek]
 have w2:IntKind.i64.wrap ((pg.length:Int)+1)=(pg.length:Int)+1:=wrap64 (by omega) (by omega);have Vf:∀ (T:List Blk),(mu K).fn 187 [.lst (g.kids.l.map iV)] (T :: h)=some (.val (.own (h.length,T.length) g.kids.l.length) ((T++[.arr 3 1 false (g.kids.l.map iV)]) :: h)):=λT=>by
  cases hkl:g.kids.l with
  |nil=>exact absurd hkl hk
  |cons x r=>
   rw[hkl]at g2;simp only[ad1]at g2;have:=aaI (iV x) (r.map iV) (by simp;omega) (λy hy=>by
    simp only[adY,aeg]at hy;rcases hy with rfl |⟨z,_,rfl⟩<;>rfl) T h
   simpa using this
 have qb:AV.eG (g.kids.l.map iV) (g.kids.l.map iV)=true:=by
  have:=ay _ bJ g.kids;rw[ek]at this;simpa[AV.beq]using this
 have r1:(G.length+1+1)*40<=room:=by unfold room;omega
 have r2:G.length+1+1<=room:=by unfold room;omega
 have hk0:((g.kids.l.length:Int)=0)=False:=by
  refine eq_false λq=>hk ?_
  exact aes (by omega)
 have es:(dw d e g).av=.agg [iV g.need,.lst (g.kids.l.map λk=>iV (k+(d:Int))),iV 0]:=by
  unfold dw;rw[if_neg hk];have:(⟨g.kids.nl,g.kids.l.map (·+(d:Int))⟩:Sl Int).avS iV=.lst (g.kids.l.map λk=>iV (k+(d:Int))):=by
   rw[Sl.avS,jK]
   ·simp[Function.comp_def]
   ·simpa using hk
  simp only[Gt.av,Gt.cs,this]
 have q1:=wz (λa=>!(a.1==h.length) ||decide (a.2<R.length+2)) G;have q3:=hR (λa=>!(a.1==h.length) ||decide (a.2<R.length+2));have q63:=fu a63 p63;have q64:=fu a64 p64;have q65:=fu a65 p65;obtain⟨env,k1,x4,x10,x11,x14,x15,x17,x18,x63,x64,x65,x82,x83,x84⟩:=C8 a4 (.own (h.length,1) (G.length+1)) (iV (e:Int)) (iV (cnt:Int)) (.ptr (h.length,R.length+2) 0) a63 a64 a65 (.lst (gs.map Gt.av)) (iV (gs.length:Int)) (iV (pg.length:Int))
  d g.kids.l g2 hd g3 (iV g.need) (iV 0) ⟨rfl,rfl⟩ (.box 140 false g.av) (.box 34 false (.agg [.aj]) :: .arv 140 3 (rt :: G.map Gt.av) :: R) h g.kids.l [] rfl
 rw[pd]at e1 k1;rw[au];generalize (mu K).code (.af (R.length+2) [4,10,11,14,15,63,64,65,82,83,84] iZ)=F at *
 simp only[aey,Io,aei,es];simp at k1;simp[iZ,KL,aa,c1,e1,Vf,k1,x4,x10,x11,x14,x15,x17,x18,x63,x64,x65,x82,x83,x84,w2,qU,pV,qV,pW,r1,r2,q1,q3,p4,q63,q64,q65,hrt,hrc,tC,hk0,hk,qb]
theorem wA(gs:List Gt)(hgl:gs.length<=1000)(hg:∀ g∈gs,GtJ g)(G0:List Gt)(hG:G0.length<=90000):∀ (sg pg:List Gt),gs=pg++sg->∃ env,
  (mu K).code (.af (R.length+2) [4,10,11,14,15,63,64,65,82,83,84] iZ) ⟨[(4,a4),(10,.own (h.length,1) ((G0++pg.map (dw d e)).length+1)),(11,iV (e:Int)),(14,iV (d:Int)),(15,iV (lvG pg:Int)),(63,a63),(64,a64),(65,a65),(82,.lst (gs.map Gt.av)),(83,iV (gs.length:Int)),(84,iV (pg.length:Int))],(.box 34 false (.agg [.aj]) :: .arv 140 3 (rt :: (G0++pg.map (dw d e)).map Gt.av) :: R) :: h⟩ =
   some (.exit 4,⟨env,(.box 34 false (.agg [.aj]) :: .arv 140 3 (rt :: (G0++gs.map (dw d e)).map Gt.av) :: R) :: h⟩) ∧
   get env 4=a4∧get env 10=.own (h.length,1) ((G0++gs.map (dw d e)).length+1)∧get env 11=iV (e:Int)∧get env 15=iV (lvG gs:Int)∧get env 63=a63∧get env 64=a64∧get env 65=a65
 | [],pg,hh=>by
  rw[ael]at hh;subst hh;rw[au];generalize (mu K).code (.af (R.length+2) [4,10,11,14,15,63,64,65,82,83,84] iZ)=F;simp[iZ]
 |g :: sg,pg,hh=>by
  have hlv:lvG pg<=1000:=by
   have:lvG pg<=pg.length:=afx _ _;have:gs.length=pg.length+(sg.length+1):=by rw[hh];simp
   omega
  have hp:pg.length<=1000:=by
   have:gs.length=pg.length+(sg.length+1):=by rw[hh];simp
   omega
  obtain⟨env,ih,r⟩:=wA gs hgl hg G0 hG sg (pg++[g]) (by simp[hh]);refine⟨env,?_,r⟩;rw[<-ih];have hgm:=hg g (by rw[hh];simp);have hGl:(G0++pg.map (dw d e)).length<=100000:=by simp;omega
  rw[Og,show (pg++[g]).map (dw d e)=pg.map (dw d e)++[dw d e g] by simp,<-List.append_assoc];by_cases c:g.kids.l=[]
  ·rw[if_pos c];exact Ij a4 a63 a64 a65 p63 p64 p65 d e hd he R hR rt h p4 hrt hrc gs pg sg g hh hgl hgm c (G0++pg.map (dw d e)) hGl (lvG pg) hlv
  ·rw[if_neg c];exact Ga a4 a63 a64 a65 p63 p64 p65 d e hd he R hR rt h p4 hrt hrc gs pg sg g hh hgl hgm c (G0++pg.map (dw d e)) hGl (lvG pg) hlv
end
end Go.Ab.Pn
