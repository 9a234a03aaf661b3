/-
  The examples of chapter 47, by the kernel.
-/
import Derived.Test.YtjnomgdildcbhaaGreatDoorAb4dT2
import Derived.Test.YtjnomgdildcbhaaGreatDoorAbPlanP
import Derived.Test.YtjnomgdildcbhaaGreatDoorAbOrd
import Derived.Test.YtjnomgdildcbhaaGreatDoorAbNf5
set_option linter.unusedVariables false
set_option linter.unusedSimpArgs false
namespace Go.Ab.Pn
open Go.Ab Go.Ab.Pol
set_option maxRecDepth 100000
theorem FA(f:List Blk):(evF K4 100).fn 11 [] [f]=some (.val (.bool true) [f]):=by kernel_rfl
theorem Q3(f:List Blk):(mu K4).fn 11 [] [f]=some (.val (.bool true) [f]):=(sX K4 100).fn _ _ _ _ (FA f)
end Go.Ab.Pn
/-
  The place of a field, the type of a value: the program.
-/
set_option linter.unusedSectionVars false
namespace Go.Ab.Pn
open Go.Ab.Pol
set_option maxRecDepth 100000
set_option maxHeartbeats 1000000
def Nv(l:List Sc)(attr:Bs)(b:Nat)(u:Us):Option (Nat×Nat×Pol.Fd):=match scN l u.sc with
 |none=>none
 |some s=>match fdI s attr with
  |none=>none
  |some k=>match s.fields.l[k]? with
   |none=>none
   |some f=>some (b,k,f)
def Rq(l:List Sc)(r:Rf)(b:Nat)(u:Us):Nat ⊕ Option (Nat×Nat×Pol.Fd):=if u.al=r.al then .inr (Nv l r.attr b u) else .inl (b+1)
theorem FB(l:List Sc)(r:Rf):∀ (us:List Us) (b:Nat),iter (Rq l r) b us=match nP us r.al with
  |none=>.inl (b+us.length)
  |some u=>.inr (match us[u]? with
   |none=>none
   |some x=>Nv l r.attr (b+u) x)
 | [],b=>by simp[iter,nP]
 |x :: us,b=>by
  have ih:=FB l r us (b+1);unfold nP at ih ⊢;simp only[iter,Rq,afh];by_cases e:x.al=r.al
  ·simp[e]
  ·simp only[e,if_false,ih,decide_false,aef];cases us.findIdx? (λu=>decide (u.al=r.al)) with
   |none=>simp;omega
   |some k=>
    have e2:b+1+k=b+(k+1):=by omega
    simp[e2]
theorem Rs(us:List Us)(l:List Sc)(r:Rf):findF us l r=match nP us r.al with
  |none=>none
  |some u=>match us[u]? with
   |none=>none
   |some x=>Nv l r.attr u x:=rfl
def rG:Option (Nat×Nat×Pol.Fd)->AV
 |none=>.agg [iV 0,iV 0]
 |some (u,k,_)=>.agg [iV (u:Int),iV ((k:Int)+2)]
def pN:Option (Nat×Nat×Pol.Fd)->AV
 |none=>.agg [.str [],iV 0,iV 0,iV 0,.aj]
 |some (_,_,f)=>f.av
theorem f86(p:Po)(hp:p.uses.l.length<=1000)(l:Sl Sc)(hl:okL l)(r:Rf)(h:Heap):(mu K).fn 86 [eX p l,r.av] h=some (.val (.tup [rG (findF p.uses.l l.l r),pN (findF p.uses.l l.l r),.bool (findF p.uses.l l.l r).isSome]) h):=by
 have key:=aD (K:=K) (n:=4) (live:=[2,3,4,5,15,16,17]) (a:=tW) (Rq l.l r)
  (λpre b=>⟨[(2,.ptr (h.length,0) 0),(3,.ptr (h.length,1) 0),(4,.ptr (h.length,2) 0),(5,.ptr (h.length,3) 0),(15,p.uses.avS Us.av),(16,.int .i64 (p.uses.l.length:Int)),(17,.int .i64 (pre.length:Int))],
   [.box 170 false (eX p l),.box 54 false r.av,.box 47 false (.agg [iV 0,iV 0]),.box 50 false (.agg [.str [],iV 0,iV 0,iV 0,.aj])] :: h⟩) (λpre b=>b=pre.length)
  (λb o=>∃ env R,o=some (.exit 0,⟨env,(.box 170 false (eX p l) :: .box 54 false r.av :: .box 47 false (.agg [iV 0,iV 0]) :: .box 50 false (.agg [.str [],iV 0,iV 0,iV 0,.aj]) :: R) :: h⟩)∧get env 4=.ptr (h.length,2) 0∧get env 5=.ptr (h.length,3) 0)
  (λq o=>match q with
   |none=>∃ env R,o=some (.exit 0,⟨env,(.box 170 false (eX p l) :: .box 54 false r.av :: .box 47 false (.agg [iV 0,iV 0]) :: .box 50 false (.agg [.str [],iV 0,iV 0,iV 0,.aj]) :: R) :: h⟩)∧get env 4=.ptr (h.length,2) 0∧get env 5=.ptr (h.length,3) 0
   |some (u,k,f)=>∃ env R,o=some (.ret,⟨env,(.box 170 false (eX p l) :: .box 54 false r.av :: .box 47 false (.agg [iV (u:Int),iV ((k:Int)+2)]) :: .box 50 false f.av :: R) :: h⟩)∧get env 4=.ptr (h.length,2) 0∧get env 5=.ptr (h.length,3) 0∧get env 6=.bool true) p.uses.l
  (λpre x rr b hl' hb=>by
   obtain⟨h1,h2,w1⟩:=aH hl' (by omega);have hix:=λ(k:IntKind)=>aG (av:=Us.av) (sz:=2) (s:=p.uses) (k:=k) (j:=(pre.length:Int)) (x:=x) (by omega) (by simpa using h2) rfl
   have k:∀ h,(mu K).fn 139 [l.avS Sc.av,.str x.sc] h=_:=λh=>f139 l.nl l.l hl.len x.sc h
   rw[au];generalize (mu K).code (.af 4 [2,3,4,5,15,16,17] tW)=F;clear hl';unfold Rq;by_cases e:x.al=r.al
   case neg=>simp[tW,KL,aa,h1,hix,w1,e,hb]
   have d:(x.al=r.al)=True:=by simp[e]
   simp only[d,if_true];refine⟨λ_ q=>(by cases q),λq hq=>?_⟩;injection hq with hq
   subst hq;unfold Nv;cases es:scN l.l x.sc with
   |none=>
    rw[es]at k;have z0:Ay none=.agg [.str [],.aj]:=rfl;rw[z0]at k;simp[tW,KL,aa,h1,hix,w1,d,k]
   |some s=>
    rw[es]at k;have z0:Ay (some s)=s.av:=rfl;rw[z0]at k;have hs:=hl.sc s (oY es).1;have k2:=λh=>f140 s hs.len r.attr h
    cases ef:fdI s r.attr with
    |none=>
     rw[ef]at k2;simp[tW,KL,aa,h1,hix,w1,d,k,k2,ef]
    |some i=>
     rw[ef]at k2;have hi:i<s.fields.l.length:=by
      unfold fdI at ef;exact (aeZ.1 ef).1
     have hg:s.fields.l[i]?=some s.fields.l[i]:=aea hi;generalize s.fields.l[i]=f at *
     have hiy:=λ(k:IntKind)=>aG (av:=Fd.av) (sz:=5) (s:=s.fields) (k:=k) (j:=(i:Int)) (x:=f) (by omega) (by simpa using hg) rfl
     have w2:IntKind.i64.wrap ((i:Int)+2)=(i:Int)+2:=wrap64 (by omega) (by have:=hs.len;omega);have q1:=ay _ vB s.fields;have q2:=ay _ cS f.words;simp[tW,KL,aa,h1,hix,w1,w2,d,k,k2,hiy,q1,q2,hb,ef,hg])
  (λb _=>by
   rw[au];generalize (mu K).code (.af 4 [2,3,4,5,15,16,17] tW)=F;simp[tW]) 0 rfl
 simp only[adZ,ad5]at key;rw[FB]at key;rw[Rs];rw[aB (KX _ _ _) acT rfl (by simp[c86])];cases eu:nP p.uses.l r.al with
 |none=>
  rw[eu]at key;obtain⟨_,env,R,k,g4,g5⟩:=key;simp[c86,KL,aa,k,g4,g5,rG,pN]
 |some u=>
  rw[eu]at key;simp only[ad7]at key ⊢;generalize (match p.uses.l[u]? with |none=>none |some x=>Nv l.l r.attr u x)=q at *
  cases q with
  |none=>
   obtain⟨env,R,k,g4,g5⟩:=key;simp[c86,KL,aa,k,g4,g5,rG,pN]
  |some q=>
   obtain⟨u',k',f⟩:=q;obtain⟨env,R,k,g4,g5,g6⟩:=key;simp[c86,KL,aa,k,g4,g5,g6,rG,pN]
end Go.Ab.Pn
/-
  Types of values: the program.
-/
namespace Go.Ab.Pn
open Go.Ab.Pol
set_option maxRecDepth 100000
set_option maxHeartbeats 1000000
structure PV where
 number:Bool
 words:Sl Bs
 name:Bs
abbrev PV.av(x:PV):AV:=.agg [.bool x.number,x.words.avS .str,.str x.name]
def PV.vt(x:PV):VT:=if x.number=true then .num else if x.words.l=[] then .wd x.name else .fw x.words.l
structure PV.ok (x:PV):Prop where
 len:x.words.l.length<=1000
 nn:x.number=true∨x.words.l≠[]∨x.words.nl=true
def zi(us:List Us)(l:List Sc)(n:Nd):Option PV:=
 if n.k=10 then some ⟨true,⟨true,[]⟩,[]⟩ else if n.k=11 then some ⟨false,⟨true,[]⟩,n.nm⟩ else match findF us l ⟨n.nm,n.attr⟩ with
  |none=>none
  |some (_,_,f)=>some ⟨decide (f.kind=0),f.words,[]⟩
def H7:Option PV->AV
 |none=>.agg [.bool true,.aj,.str []]
 |some v=>v.av
theorem uj{us:List Us}{l:List Sc}{r:Rf}{u k:Nat}{f:Pol.Fd}(h:findF us l r=some (u,k,f)):∃ s∈l,f∈s.fields.l:=by
 unfold findF at h;cases e1:nP us r.al with
 |none=>rw[e1]at h;cases h
 |some u'=>
  rw[e1]at h;simp only at h;cases e2:us[u']? with
  |none=>rw[e2]at h;cases h
  |some x=>
   rw[e2]at h;simp only at h;cases e3:scN l x.sc with
   |none=>rw[e3]at h;cases h
   |some s=>
    rw[e3]at h;simp only at h;cases e4:fdI s r.attr with
    |none=>rw[e4]at h;cases h
    |some k'=>
     rw[e4]at h;simp only at h;cases e5:s.fields.l[k']? with
     |none=>rw[e5]at h;cases h
     |some g=>
      rw[e5]at h;simp only[fS,ad2]at h;obtain⟨_,_,rfl⟩:=h;exact⟨s,(oY e3).1,aee e5⟩
theorem um:∀ {l:List Pol.Fd} {met:List Bs},fT met l=0->∀ f∈l,dh f=0
 | [],met,h,f,hf=>by simp at hf
 |x :: l,met,h,f,hf=>by
  simp only[fT]at h;split at h
  ·simp at h
  split at h
  ·simp at h
  split at h
  ·rename_i a;exact absurd h a
  ·rename_i a;have a:dh x=0:=by simpa using a
   rcases adY.1 hf with rfl |hf
   ·exact a
   ·exact um h f hf
theorem vL{s:Sc}(h:ju s=0):∀ f∈s.fields.l,dh f=0:=by
 unfold ju at h;split at h
 ·simp at h
 split at h
 ·simp at h
 ·exact um h
theorem xw{f:Pol.Fd}(h:dh f=0):f.kind≠0->f.words.l≠[]:=by
 intro hk e;unfold dh at h;rw[if_neg hk]at h;split at h
 ·split at h
  ·simp at h
  ·unfold sV at h;rw[e]at h;simp at h
 ·simp at h
theorem aan{us:List Us}{l:List Sc}(hs:∀ s∈l,ju s=0)(n:Nd):cg us l n=(zi us l n).map PV.vt:=by
 unfold cg zi;split
 ·simp[PV.vt]
 split
 ·simp[PV.vt]
 ·cases e:findF us l ⟨n.nm,n.attr⟩ with
  |none=>rfl
  |some q=>
   obtain⟨u,k,f⟩:=q;obtain⟨s,h1,h2⟩:=uj e;have:=xw (vL (hs s h1) f h2);simp only[aeK,PV.vt];by_cases hk:f.kind=0
   ·simp[hk]
   ·simp[hk,this hk]
theorem aao{us:List Us}{l:Sl Sc}(hl:okL l)(hs:∀ s∈l.l,ju s=0)(n:Nd){v:PV}(h:zi us l.l n=some v):v.ok:=by
 unfold zi at h;split at h
 ·injection h with h;subst h;exact⟨by simp,.inl rfl⟩
 split at h
 ·injection h with h;subst h;exact⟨by simp,.inr (.inr rfl)⟩
 ·cases e:findF us l.l ⟨n.nm,n.attr⟩ with
  |none=>rw[e]at h;cases h
  |some q=>
   obtain⟨u,k,f⟩:=q;rw[e]at h;obtain⟨s,h1,h2⟩:=uj e;have:=xw (vL (hs s h1) f h2);injection h with h
   subst h;refine⟨((hl.sc s h1).fields f h2).len,?_⟩;by_cases hk:f.kind=0
   ·exact .inl (by simp[hk])
   ·exact .inr (.inl (this hk))
theorem f213(p:Po)(hp:p.uses.l.length<=1000)(l:Sl Sc)(hl:okL l){i:Nat}{n:Nd}(hn:p.nodes.l[i]?=some n)(h:Heap) :
  (mu K).fn 213 [eX p l,.int .i64 (i:Int)] h=some (.val (.tup [H7 (zi p.uses.l l.l n),.bool (zi p.uses.l l.l n).isSome]) h):=by
 have k:=λh=>f86 p hp l hl ⟨n.nm,n.attr⟩ h
 have hix:=λ(k:IntKind)=>aG (av:=Nd.av) (sz:=6) (s:=p.nodes) (k:=k) (j:=(i:Int)) (x:=n) (by omega) (by simpa using hn) rfl
 rw[aB (KX _ _ _) Zz rfl (by simp[K9])];unfold zi;by_cases c1:n.k=10
 ·have d:(n.k=10)=True:=by simp[c1]
  simp[K9,KL,aa,hix,d,H7];rfl
 by_cases c2:n.k=11
 ·have d:(n.k=11)=True:=by simp[c2]
  have d1:(n.k=10)=False:=by simp[c1]
  simp[K9,KL,aa,hix,d,d1,H7];rfl
 rw[if_neg c1,if_neg c2];cases e:findF p.uses.l l.l ⟨n.nm,n.attr⟩ with
 |none=>
  rw[e]at k;simp only[rG,pN]at k;simp[K9,KL,aa,hix,c1,c2,k,H7]
 |some q=>
  obtain⟨u,k',f⟩:=q;rw[e]at k;simp only[rG,pN]at k;simp[K9,KL,aa,hix,c1,c2,k,H7]
theorem uo:∀ (a b:List Bs),a.length=b.length->(a.zip b).all (λq=>decide (q.1=q.2))=decide (a=b)
 | [],[],_=>rfl
 | [],_ :: _,h=>by simp at h
 |_ :: _,[],h=>by simp at h
 |x :: a,y :: b,h=>by
  have ih:=uo a b (by simpa using h);simp only[List.zip_cons_cons,aeG,ih];rw[aem];simp
theorem f256(a b:Sl Bs)(ha:a.l.length<=1000)(h:Heap):(mu K).fn 256 [a.avS .str,b.avS .str] h=some (.val (.bool (decide (a.l=b.l))) h):=by
 rw[aB (KX _ _ _) ZY rfl (by simp[ML])];by_cases hlen:a.l.length=b.l.length
 case neg=>
  have e:¬ a.l=b.l:=λq=>hlen (by rw[q])
  have e2:((a.l.length:Int)=(b.l.length:Int))=False:=by simp;omega
  simp[ML,KL,aa,e,e2,hlen]
 have e2:((a.l.length:Int)=(b.l.length:Int))=True:=by simp;omega
 have hz:(a.l.zip b.l).length=a.l.length:=by simp[hlen]
 have key:=aD (K:=K) (n:=0) (live:=[0,1,12,13]) (a:=sQ) (λ(_:Unit) (q:Bs×Bs)=>if decide (q.1=q.2)=true then (.inl ():Unit ⊕ Unit) else .inr ())
  (λpre _=>⟨[(0,a.avS .str),(1,b.avS .str),(12,.int .i64 (a.l.length:Int)),(13,.int .i64 (pre.length:Int))],[] :: h⟩) (λ_ _=>True)
  (λ_ o=>∃ env,o=some (.exit 0,⟨env,[] :: h⟩)) (λ_ o=>∃ env,o=some (.ret,⟨env,[] :: h⟩)∧get env 4=.bool false) (a.l.zip b.l)
  (λpre q r u hl _=>by
   obtain⟨x,y⟩:=q;obtain⟨h1,h2,w1⟩:=aH hl (by omega);rw[hz]at h1;obtain⟨g1,g2⟩:=List.getElem?_zip_eq_some.1 h2;have hix:=λ(k:IntKind)=>aG (av:=AV.str) (sz:=1) (s:=a) (k:=k) (j:=(pre.length:Int)) (x:=x) (by omega) (by simpa using g1) rfl
   have hiy:=λ(k:IntKind)=>aG (av:=AV.str) (sz:=1) (s:=b) (k:=k) (j:=(pre.length:Int)) (x:=y) (by omega) (by simpa using g2) rfl
   have qx:=cS x;have qy:=cS y;rw[au];generalize (mu K).code (.af 0 [0,1,12,13] sQ)=F;clear hl;by_cases e:x=y
   ·have d:(x=y)=True:=by simp[e]
    simp[sQ,KL,aa,h1,hix,hiy,w1,d]
   ·simp[sQ,KL,aa,h1,hix,hiy,w1,e])
  (λu _=>by
   rw[au];generalize (mu K).code (.af 0 [0,1,12,13] sQ)=F;simp[sQ,hz,hlen]) () trivial
 simp only[adZ,ad5]at key;have ez:=uo a.l b.l hlen;by_cases e:a.l=b.l
 ·rw[decide_eq_true e]at ez;rw[(aX (λq:Bs×Bs=>decide (q.1=q.2)) (a.l.zip b.l)).1 ez]at key;obtain⟨_,env,k⟩:=key;have e3:(a.l=b.l)=True:=by simp[e]
  rw[hlen]at k;simp[ML,KL,aa,e2,hlen,k,e3]
 ·rw[decide_eq_false e]at ez;rw[(aX (λq:Bs×Bs=>decide (q.1=q.2)) (a.l.zip b.l)).2 ez]at key;obtain⟨env,k,g⟩:=key;rw[hlen]at k;simp[ML,KL,aa,e2,hlen,k,g,e]
theorem f245(a b:PV)(ha:a.ok)(hb:b.ok)(h:Heap):(mu K).fn 245 [a.av,b.av] h=some (.val (.int .i64 (aT a.vt b.vt)) h):=by
 obtain⟨a1,⟨anl,al⟩,an⟩:=a;obtain⟨b1,⟨bnl,bl⟩,bn⟩:=b;obtain⟨la,na⟩:=ha;obtain⟨lb,nb⟩:=hb;simp only at la na lb nb;have k99:∀ h,(mu K).fn 256 [Sl.avS .str ⟨anl,al⟩,Sl.avS .str ⟨bnl,bl⟩] h=_:=λh=>f256 ⟨anl,al⟩ ⟨bnl,bl⟩ la h
 have kA:∀ h,(mu K).fn 115 [Sl.avS .str ⟨anl,al⟩,.str bn] h=_:=λh=>f115 anl al bn (by omega) h
 have kB:∀ h,(mu K).fn 115 [Sl.avS .str ⟨bnl,bl⟩,.str an] h=_:=λh=>f115 bnl bl an (by omega) h
 rw[aB (KX _ _ _) ZR rfl (by simp[tY])];cases a1
 ·cases b1
  ·cases al with
   |nil=>
    have e1:anl=true:=by simpa using na
    subst e1;have ea:Sl.avS AV.str ⟨true,[]⟩=.aj:=rfl;rw[ea]at k99 kA;cases bl with
    |nil=>
     have e2:bnl=true:=by simpa using nb
     subst e2;simp[tY,KL,aa,ea,PV.vt,aT]
    |cons w ws=>
     have eb:Sl.avS AV.str ⟨bnl,w :: ws⟩=.lst ((w :: ws).map .str):=rfl;rw[eb]at k99 kB;simp only[Io]at eb kB;by_cases hm:an∈w :: ws
     ·have hm2:=hm;rw[adY]at hm2;simp only[decide_eq_true hm]at kB;simp[tY,KL,aa,ea,eb,PV.vt,aT,kB,hm2]
     ·have hm2:=hm;rw[adY,not_or]at hm2;simp only[decide_eq_false hm]at kB;simp[tY,KL,aa,ea,eb,PV.vt,aT,kB,hm2]
   |cons v vs=>
    have ea:Sl.avS AV.str ⟨anl,v :: vs⟩=.lst ((v :: vs).map .str):=rfl;rw[ea]at k99 kA;simp only[Io]at ea kA k99;cases bl with
    |nil=>
     have e2:bnl=true:=by simpa using nb
     subst e2;have eb:Sl.avS AV.str ⟨true,[]⟩=.aj:=rfl;by_cases hm:bn∈v :: vs
     ·have hm2:=hm;rw[adY]at hm2;simp only[decide_eq_true hm]at kA;simp[tY,KL,aa,ea,eb,PV.vt,aT,kA,hm2]
     ·have hm2:=hm;rw[adY,not_or]at hm2;simp only[decide_eq_false hm]at kA;simp[tY,KL,aa,ea,eb,PV.vt,aT,kA,hm2]
    |cons w ws=>
     have eb:Sl.avS AV.str ⟨bnl,w :: ws⟩=.lst ((w :: ws).map .str):=rfl;rw[eb]at k99;simp only[Io]at eb k99;by_cases hm:v :: vs=w :: ws
     ·simp only[decide_eq_true hm]at k99;have hm2:=hm;rw[aen]at hm2;obtain⟨rfl,rfl⟩:=hm2;simp[tY,KL,aa,ea,eb,PV.vt,aT,k99]
     ·have hm2:=hm;rw[aen]at hm2;simp only[decide_eq_false hm]at k99;simp[tY,KL,aa,ea,eb,PV.vt,aT,k99,hm2]
  ·by_cases q:al=[]
   ·simp[tY,KL,aa,PV.vt,aT,q]
   ·simp[tY,KL,aa,PV.vt,aT,q]
 ·cases b1
  ·by_cases q:bl=[]
   ·simp[tY,KL,aa,PV.vt,aT,q]
   ·simp[tY,KL,aa,PV.vt,aT,q]
  ·simp[tY,KL,aa,PV.vt,aT]
theorem f244(v:PV)(h:Heap):(mu K).fn 244 [v.av] h=some (.val (.bool (!v.number)) h):=by
 rw[aB (KX _ _ _) ZQ rfl (by simp[Ug])];simp[Ug,KL,aa]
theorem f255(l:List PV)(hl:l.length<=1000000)(h:Heap):∃ i:Int,(mu K).fn 255 [.lst (l.map PV.av),.fn (.func 244) [] []] h=some (.val (.int .i64 i) h)∧decide (0<=i)=!l.all PV.number:=by
 have key:=aD (K:=K) (n:=0) (live:=[0,1,7,8]) (a:=sP) (λ(_:Unit) (x:PV)=>if x.number=true then (.inl ():Unit ⊕ Unit) else .inr ())
  (λpre _=>⟨[(0,.lst (l.map PV.av)),(1,.fn (.func 244) [] []),(7,.int .i64 (l.length:Int)),(8,.int .i64 (pre.length:Int))],[] :: h⟩) (λ_ _=>True)
  (λ_ o=>∃ env,o=some (.exit 0,⟨env,[] :: h⟩)) (λ_ o=>∃ env i,o=some (.ret,⟨env,[] :: h⟩)∧get env 4=.int .i64 i∧0<=i) l
  (λpre x r b hl' _=>by
   obtain⟨h1,h2,w1⟩:=aH hl' (by omega);have hix:=λ(k:IntKind)=>dU (sz:=3) (l:=l.map PV.av) (k:=k) (j:=(pre.length:Int)) (v:=x.av) (by omega) (by rw[aev,aeh,h2];rfl) rfl
   have k:=λh=>f244 x h
   rw[au];generalize (mu K).code (.af 0 [0,1,7,8] sP)=F;have hlen:(l.map PV.av).length=l.length:=by simp
   generalize l.map PV.av=M at *
   clear hl';cases e:x.number
   ·rw[e]at k;simp[sP,KL,aa,h1,hix,w1,k]
   ·rw[e]at k;simp[sP,KL,aa,h1,hix,w1,k])
  (λb _=>by
   rw[au];generalize (mu K).code (.af 0 [0,1,7,8] sP)=F;simp[sP]) () trivial
 simp only[adZ,ad5]at key;rw[aB (KX _ _ _) ZX rfl (by simp[QT])];cases hm:l.all PV.number
 ·rw[(aX PV.number l).2 hm]at key;obtain⟨env,i,k,g4,hi⟩:=key;exact⟨i,by simp[QT,KL,aa,k,g4],by simp[hi]⟩
 ·rw[(aX PV.number l).1 hm]at key;obtain⟨_,env,k⟩:=key;exact⟨-1,by simp[QT,KL,aa,k],by simp⟩
theorem f209(l:List PV)(hl:l.length<=1000000)(h:Heap):(mu K).fn 209 [.lst (l.map PV.av)] h=some (.val (.bool (l.all PV.number)) h):=by
 have ac1:∀ h,(mu K).fn 243 [.lst (l.map PV.av),.fn (.func 244) [] []] h=some (.val (.bool (!l.all PV.number)) h):=λh=>by
  obtain⟨i,k,hi⟩:=f255 l hl ([] :: h);rw[aB (KX _ _ _) ZP rfl (by simp[Uf])];simp[-List.all_eq_true,Uf,KL,aa,k,hi]
 rw[aB (KX _ _ _) Zv rfl (by simp[T9])];generalize l.all PV.number=b at *
 simp[T9,KL,aa,ac1]
def agF(v:PV)(_:Unit)(x:PV):Unit ⊕ Int:=if aT v.vt x.vt=0 then .inl () else .inr (aT v.vt x.vt)
theorem Jt(v:PV):∀ l:List PV,iter (agF v) () l=if lK v.vt (l.map PV.vt)=0 then .inl () else .inr (lK v.vt (l.map PV.vt))
 | []=>rfl
 |x :: l=>by
  have ih:=Jt v l;simp only[iter,agF,Io,lK];by_cases e:aT v.vt x.vt=0
  ·simp[e,ih]
  ·simp[e]
theorem f210(v:PV)(l:List PV)(hl:l.length<=1000000)(hv:v.ok)(hs:∀ x∈l,x.ok)(h:Heap):(mu K).fn 210 [.lst ((v :: l).map PV.av)] h=some (.val (.int .i64 (oM ((v :: l).map PV.vt))) h):=by
 have key:=aD (K:=K) (n:=0) (live:=[0,7,8,9]) (a:=sJ) (agF v)
  (λpre _=>⟨[(0,.lst ((v :: l).map PV.av)),(7,.lst (l.map PV.av)),(8,.int .i64 (l.length:Int)),(9,.int .i64 (pre.length:Int))],[] :: h⟩) (λ_ _=>True)
  (λ_ o=>∃ env,o=some (.exit 0,⟨env,[] :: h⟩)) (λe o=>∃ env R,o=some (.ret,⟨env,R :: h⟩)∧get env 2=.int .i64 e) l
  (λpre x r b hl' _=>by
   obtain⟨h1,h2,w1⟩:=aH hl' (by omega);have hix:=λ(k:IntKind)=>dU (sz:=3) (l:=l.map PV.av) (k:=k) (j:=(pre.length:Int)) (v:=x.av) (by omega) (by rw[aev,aeh,h2];rfl) rfl
   have hi0:=λ(k:IntKind)=>dU (sz:=3) (l:=(v :: l).map PV.av) (k:=k) (j:=0) (v:=v.av) (by omega) rfl rfl
   have k:=λh=>f245 v x hv (hs x (by rw[hl'];simp)) h
   simp only[Io]at hi0 ⊢;rw[au];generalize (mu K).code (.af 0 [0,7,8,9] sJ)=F;have hlen:(l.map PV.av).length=l.length:=by simp
   generalize l.map PV.av=M at *
   clear hl';unfold agF;generalize aT v.vt x.vt=e at *
   by_cases e0:e=0
   ·have d:(e=0)=True:=by simp[e0]
    subst e0;simp[sJ,KL,aa,h1,hix,hi0,w1,k]
   ·simp[sJ,KL,aa,h1,hix,hi0,w1,k,e0])
  (λb _=>by
   rw[au];generalize (mu K).code (.af 0 [0,7,8,9] sJ)=F;simp[sJ]) () trivial
 simp only[adZ,ad5]at key;rw[Jt]at key;rw[aB (KX _ _ _) Zw rfl (by simp[QH])];simp only[Io,oM];have t1:((1:Int)<=(l.length:Int)+1)=True:=by simp;omega
 have t2:(v.av :: l.map PV.av).take (l.length+1)=v.av :: l.map PV.av:=afj (by simp);by_cases e:lK v.vt (l.map PV.vt)=0
 ·rw[if_pos e]at key;obtain⟨_,env,k⟩:=key;simp only[Io]at k;simp[QH,KL,aa,k,e,t1,t2]
 ·rw[if_neg e]at key;obtain⟨env,R,k,g⟩:=key;simp only[Io]at k;simp[QH,KL,aa,k,g,t1,t2]
end Go.Ab.Pn
/-
  Conditions, the visit of a policy: the program.
-/
namespace Go.Ab.Pn
open Go.Ab.Pol
set_option maxRecDepth 100000
set_option maxHeartbeats 1000000
theorem Ea:∀ l:List PV,(l.map PV.vt).all isNum=l.all PV.number
 | []=>rfl
 |x :: l=>by
  have ih:=Ea l;have e:isNum x.vt=x.number:=by
   unfold PV.vt;cases h:x.number
   ·by_cases q:x.words.l=[]<;>simp[q,isNum]
   ·simp[isNum]
  simp only[Io,aeG,ih,e]
theorem f208(n:Nd)(hk:n.k=6)(v:PV)(l:List PV)(hl:l.length<=1000)(hv:v.ok)(hs:∀ x∈l,x.ok)(h:Heap):(mu K).fn 208 [n.av,.lst ((v :: l).map PV.av)] h=some (.val (.int .i64 (dI n ((v :: l).map PV.vt))) h):=by
 have k1:=λh=>f209 (v :: l) (by simp;omega) h
 have k2:=λh=>f210 v l (by omega) hv hs h
 have e:=Ea (v :: l);unfold dI;rw[if_pos hk,e];generalize (v :: l).map PV.av=M at *
 generalize oM ((v :: l).map PV.vt)=r at *
 generalize (v :: l).all PV.number=b at *
 clear e;rw[aB (KX _ _ _) Zu rfl (by simp[c208])];by_cases c0:n.num=0
 ·have d0:(n.num=0)=True:=by simp[c0]
  simp[c208,KL,aa,d0,k2]
 by_cases c1:n.num=1
 ·have d1:(n.num=1)=True:=by simp[c1]
  have d0:(n.num=0)=False:=by simp[c0]
  simp[c208,KL,aa,d0,d1,k2]
 cases b
 ·simp[c208,KL,aa,c0,c1,k1,k2]
 ·simp[c208,KL,aa,c0,c1,k1,k2]
theorem f211(n:Nd)(hk:n.k=7)(l:List PV)(hl:l.length<=1000)(h:Heap):(mu K).fn 211 [n.av,.lst (l.map PV.av)] h=some (.val (.int .i64 (dI n (l.map PV.vt))) h):=by
 have k1:=λh=>f209 l (by omega) h
 have e:=Ea l;have hk6:¬ n.k=6:=by omega
 unfold dI;rw[if_neg hk6,if_pos hk,e];generalize l.map PV.av=M at *
 generalize l.all PV.number=b at *
 clear e;rw[aB (KX _ _ _) Zx rfl (by simp[QI])];cases b
 ·simp[QI,KL,aa,k1]
 ·simp[QI,KL,aa,k1]
theorem f212(n:Nd)(hk:n.k=8)(v:PV)(l:List PV)(hl:l.length<=1000)(hv:v.ok)(hs:∀ x∈l,x.ok)(h:Heap):(mu K).fn 212 [n.av,.lst ((v :: l).map PV.av)] h=some (.val (.int .i64 (dI n ((v :: l).map PV.vt))) h):=by
 have k2:=λh=>f210 v l (by omega) hv hs h
 have hk6:¬ n.k=6:=by omega
 have hk7:¬ n.k=7:=by omega
 unfold dI;rw[if_neg hk6,if_neg hk7];generalize (v :: l).map PV.av=M at *
 generalize oM ((v :: l).map PV.vt)=r at *
 rw[aB (KX _ _ _) Zy rfl (by simp[Ua])];simp[Ua,KL,aa,k2]
def kdF(g:Nd->Option PV)(b:List PV)(t:Tr):List PV ⊕ Nat:=match g t.n with
 |none=>.inr t.i
 |some v=>.inl (b++[v])
theorem Ju(g:Nd->Option PV):∀ (ks:List Tr) (b:List PV),
  (∃ vs,iter (kdF g) b ks=.inl (b++vs)∧iA (λn=>(g n).map PV.vt) ks=.inr (vs.map PV.vt)∧vs.length=ks.length∧∀ v∈vs,∃ t∈ks,g t.n=some v) ∨
  (∃ i,iter (kdF g) b ks=.inr i∧iA (λn=>(g n).map PV.vt) ks=.inl i)
 | [],b=>.inl ⟨[],by simp[iter],rfl,rfl,by simp⟩
 |t :: ks,b=>by
  simp only[iter,kdF,iA];cases e:g t.n with
  |none=>exact .inr ⟨t.i,rfl,rfl⟩
  |some v=>
   rcases Ju g ks (b++[v]) with⟨vs,h1,h2,h3,h4⟩ |⟨i,h1,h2⟩
   ·refine .inl ⟨v :: vs,by simp[h1],by simp[h2],by simp[h3],λx hx=>?_⟩;rcases adY.1 hx with rfl |hx
    ·exact⟨t,by simp,e⟩
    ·obtain⟨u,a,b⟩:=h4 x hx;exact⟨u,by simp[a],b⟩
   ·exact .inr ⟨i,by simp[h1],by simp[h2]⟩
abbrev aap:AV:=.agg [.gq,.gq,.gq,.gq,.gq,.gq,.fn (.func 208) [] [],.fn (.func 211) [] [],.fn (.func 212) [] [],.gq,.gq,.gq]
abbrev vtF(p:Po)(l:Sl Sc):Nd->Option VT:=λn=>(zi p.uses.l l.l n).map PV.vt
theorem f162(p:Po)(hp:Sz p)(l:Sl Sc)(hl:okL l)(hs:∀ s∈l.l,ju s=0):∀ (t:Tr) {c:Bool},Pol.IsT p.nodes.l t->WF t c->∀ (h:Heap),
  (mu K).fn 162 [eX p l,.int .i64 (t.i:Int)] h=some (.val (.tup [.int .i64 (cZ (vtF p l) t).1,.int .i64 (cZ (vtF p l) t).2]) h)
 |.nd i n ks,c,⟨hn,hkk,hts⟩,hw,h=>by
  obtain⟨k0,k12,_,hko,_⟩:=eJ hw.1;have hmem:n∈p.nodes.l:=aee hn;have hkl:=(hp.nodes.2 n hmem).2;have hix:=λ(k:IntKind)=>aG (av:=Nd.av) (sz:=6) (s:=p.nodes) (k:=k) (j:=(i:Int)) (x:=n) (by omega) (by simpa using hn) rfl
  rw[aB (KX _ _ _) Za rfl (by simp[Ce])];by_cases hk:n.k=6∨n.k=7∨n.k=8
  case neg=>
   have e0:cZ (vtF p l) (.nd i n ks)=(0,0):=by simp only[cZ];rw[if_neg hk]
   rw[e0];have:n.k=0∨n.k=1∨n.k=2∨n.k=3∨n.k=4∨n.k=5∨n.k=9∨n.k=10∨n.k=11:=by omega
   rcases this with q |q |q |q |q |q |q |q |q<;>simp[Ce,KL,aa,Tr.i,hix,q]
  have hlk:n.kids.l.length=ks.length:=by rw[hkk];simp
  have hk2:2<=ks.length:=by
   rw[hlk]at hko;unfold cQ at hko;rcases hk with q |q |q
   ·rw[if_neg (by omega),if_neg (by omega),if_neg (by omega),if_pos q]at hko;simp at hko;omega
   ·rw[if_neg (by omega),if_neg (by omega),if_neg (by omega),if_neg (by omega),if_pos q]at hko;simp at hko;omega
   ·rw[if_neg (by omega),if_neg (by omega),if_neg (by omega),if_neg (by omega),if_neg (by omega),if_pos q]at hko;simpa using hko
  have key:=aD (K:=K) (n:=4) (live:=[1,2,6,7,8,27,28,29]) (a:=nK) (kdF (zi p.uses.l l.l))
   (λpre b=>⟨[(1,.int .i64 (i:Int)),(2,.ptr (h.length,0) 0),(6,.ptr (h.length,1) 0),(7,.ptr (h.length,2) 0),(8,.own (h.length,3) b.length),(27,n.kids.avS iV),(28,.int .i64 (n.kids.l.length:Int)),(29,.int .i64 (pre.length:Int))],
    [.box 170 false (eX p l),.box 292 false aap,.box 90 false n.av,.arr (if pre=[] then 0 else 294) (if pre=[] then 0 else 3) false (b.map PV.av)] :: h⟩) (λpre b=>b.length=pre.length)
   (λb o=>∃ env,o=some (.exit 0,⟨env,[.box 170 false (eX p l),.box 292 false aap,.box 90 false n.av,.arr 294 3 false (b.map PV.av)] :: h⟩)∧get env 1=.int .i64 (i:Int)∧get env 6=.ptr (h.length,1) 0∧get env 7=.ptr (h.length,2) 0∧get env 8=.own (h.length,3) b.length)
   (λj o=>∃ env R,o=some (.ret,⟨env,R :: h⟩)∧get env 4=.int .i64 (j:Int)∧get env 5=.int .i64 9) ks
   (λpre x r b hl' hb=>by
    obtain⟨h1,h2,w1⟩:=aH hl' (by omega);have hx:=(pI.1 hts) x (by rw[hl'];simp);have hxn:p.nodes.l[x.i]?=some x.n:=by
     cases x with
     |nd a b c=>exact hx.1
    have g2:n.kids.l[pre.length]?=some (x.i:Int):=by rw[hkk,aeh,h2];rfl
    have hiy:=λ(k:IntKind)=>aG (av:=iV) (sz:=1) (s:=n.kids) (k:=k) (j:=(pre.length:Int)) (x:=(x.i:Int)) (by omega) (by simpa using g2) rfl
    have k:=λh=>f213 p hp.uses.1 l hl hxn h
    have hlen:ks.length=pre.length+(r.length+1):=by rw[hl'];simp
    have r1:(pre.length+1)*48<=room:=by unfold room;omega
    have r2:pre.length+1<=room:=by unfold room;omega
    rw[hlk];rw[au];generalize (mu K).code (.af 4 [1,2,6,7,8,27,28,29] nK)=F;clear hl';unfold kdF;cases e:zi p.uses.l l.l x.n with
    |none=>
     rw[e]at k;have z0:H7 none=.agg [.bool true,.aj,.str []]:=rfl;rw[z0]at k;by_cases hpre:pre=[]
     ·have d:(pre=[])=True:=by simp[hpre]
      simp[nK,KL,aa,h1,hiy,w1,k,d]
     ·simp[nK,KL,aa,h1,hiy,w1,k,hpre]
    |some v=>
     rw[e]at k;have z0:H7 (some v)=v.av:=rfl;rw[z0]at k;by_cases hpre:pre=[]
     ·have d:(pre=[])=True:=by simp[hpre]
      simp[nK,KL,aa,h1,hiy,w1,k,d,r1,r2,hb,List.replicate]
     ·simp[nK,KL,aa,h1,hiy,w1,k,hpre,r1,r2,hb,List.replicate])
   (λb hb=>by
    have hne:(ks=[])=False:=by simp;intro q;rw[q]at hk2;simp at hk2
    rw[hlk];rw[au];generalize (mu K).code (.af 4 [1,2,6,7,8,27,28,29] nK)=F;simp[nK,hne]) [] rfl
  simp only[adZ,ad5,aei,if_true]at key;have hvt:∀ v (t:Tr),zi p.uses.l l.l t.n=some v->v.ok:=λv t e=>aao hl hs t.n e
  simp only[cZ];rw[if_pos hk];rcases Ju (zi p.uses.l l.l) ks []with⟨vs,i1,i2,i3,i4⟩ |⟨j,i1,i2⟩
  ·rw[i1]at key;simp only[aeb]at key;obtain⟨_,env,kk,g1,g6,g7,g8⟩:=key;have i2:iA (vtF p l) ks=.inr (vs.map PV.vt):=i2;rw[i2];simp only;have hok:∀ v∈vs,v.ok:=λv hv=>by
    obtain⟨t,_,e⟩:=i4 v hv;exact hvt v t e
   obtain⟨v,vs',rfl⟩:∃ v vs',vs=v :: vs':=by
    cases vs with
    |nil=>simp at i3;omega
    |cons v vs'=>exact⟨v,vs',rfl⟩
   have hlv:vs'.length<=1000:=by simp at i3;omega
   have hv:=hok v (by simp);have hvs:∀ x∈vs',x.ok:=λx hx=>hok x (by simp[hx])
   rcases hk with q |q |q
   ·have k3:=λh=>f208 n q v vs' hlv hv hvs h
    generalize dI n ((v :: vs').map PV.vt)=e at *
    simp only[Io,Nd.av,Nd.cs,q]at k3;simp only[Io]at kk;by_cases e0:e=0
    ·subst e0;simp[Ce,KL,aa,Tr.i,hix,q,kk,g1,g6,g7,g8,k3]
    ·simp[Ce,KL,aa,Tr.i,hix,q,kk,g1,g6,g7,g8,k3,e0]
   ·have k3:=λh=>f211 n q (v :: vs') (by simp at i3 ⊢;omega) h
    generalize dI n ((v :: vs').map PV.vt)=e at *
    simp only[Io,Nd.av,Nd.cs,q]at k3;simp only[Io]at kk;by_cases e0:e=0
    ·subst e0;simp[Ce,KL,aa,Tr.i,hix,q,kk,g1,g6,g7,g8,k3]
    ·simp[Ce,KL,aa,Tr.i,hix,q,kk,g1,g6,g7,g8,k3,e0]
   ·have k3:=λh=>f212 n q v vs' hlv hv hvs h
    generalize dI n ((v :: vs').map PV.vt)=e at *
    simp only[Io,Nd.av,Nd.cs,q]at k3;simp only[Io]at kk;by_cases e0:e=0
    ·subst e0;simp[Ce,KL,aa,Tr.i,hix,q,kk,g1,g6,g7,g8,k3]
    ·simp[Ce,KL,aa,Tr.i,hix,q,kk,g1,g6,g7,g8,k3,e0]
  ·rw[i1]at key;obtain⟨env,R,kk,g4,g5⟩:=key;have i2:iA (vtF p l) ks=.inl j:=i2;rw[i2];simp only;rcases hk with q |q |q<;>simp[Ce,KL,aa,Tr.i,hix,q,kk,g4,g5]
end Go.Ab.Pn
/-
  Check and Field of ac2: the program.
-/
namespace Go.Ab.Pn
open Go.Ab.Pol
set_option maxRecDepth 100000
set_option maxHeartbeats 1000000
def vsF(f:Nd->Option VT)(_:Unit)(t:Tr):Unit ⊕ (Int×Int):=if (iB f t).2=0 then .inl () else .inr (iB f t)
theorem Jv(f:Nd->Option VT):∀ ts:List Tr,iter (vsF f) () ts=if (jm f ts).2=0 then .inl () else .inr (jm f ts)
 | []=>rfl
 |t :: ts=>by
  have ih:=Jv f ts;simp only[iter,vsF,jm];by_cases e:(iB f t).2=0
  ·simp[e,ih]
  ·simp[e]
theorem Rt(f:Nd->Option VT)(ts:List Tr)(h:(jm f ts).2=0):jm f ts=(0,0):=by
 rw[ny]at h ⊢;exact (pO h).1
mutual
theorem f101(p:Po)(hp:Sz p)(l:Sl Sc)(hl:okL l)(hs:∀ s∈l.l,ju s=0):∀ (t:Tr) {c:Bool},Pol.IsT p.nodes.l t->WF t c->∀ (h:Heap),
  (mu K).fn 101 [eX p l,.int .i64 (t.i:Int)] h=some (.val (.tup [.int .i64 (iB (vtF p l) t).1,.int .i64 (iB (vtF p l) t).2]) h)
 |.nd i n ks,c,ht,hw,h=>by
  have k0:=λh=>f162 p hp l hl hs (.nd i n ks) ht hw h
  obtain⟨hn,hkk,hts⟩:=ht;have ih:=Tc p hp l hl hs ks hts hw.2;have hmem:n∈p.nodes.l:=aee hn;have hkl:=(hp.nodes.2 n hmem).2;have hix:=λ(k:IntKind)=>aG (av:=Nd.av) (sz:=6) (s:=p.nodes) (k:=k) (j:=(i:Int)) (x:=n) (by omega) (by simpa using hn) rfl
  have hlk:n.kids.l.length=ks.length:=by rw[hkk];simp
  rw[aB (KX _ _ _) YE rfl (by simp[MF])];simp only[Tr.i,iB]at k0 ⊢;generalize cZ (vtF p l) (.nd i n ks)=q at *
  obtain⟨a,e⟩:=q;simp only at k0 ⊢;by_cases e0:e=0
  case neg=>
   rw[if_neg e0];simp[MF,KL,aa,k0,e0]
  rw[if_pos e0];subst e0;have key:=aD (K:=K) (n:=1) (live:=[2,28,29,30]) (a:=sA) (vsF (vtF p l))
   (λpre _=>⟨[(2,.ptr (h.length,0) 0),(28,n.kids.avS iV),(29,.int .i64 (n.kids.l.length:Int)),(30,.int .i64 (pre.length:Int))],[.box 170 false (eX p l)] :: h⟩) (λ_ _=>True)
   (λ_ o=>∃ env,o=some (.exit 0,⟨env,[.box 170 false (eX p l)] :: h⟩))
   (λq o=>∃ env R,o=some (.ret,⟨env,R :: h⟩)∧get env 4=.int .i64 q.1∧get env 5=.int .i64 q.2) ks
   (λpre x r b hl' _=>by
    obtain⟨h1,h2,w1⟩:=aH hl' (by omega);have g2:n.kids.l[pre.length]?=some (x.i:Int):=by rw[hkk,aeh,h2];rfl
    have hiy:=λ(k:IntKind)=>aG (av:=iV) (sz:=1) (s:=n.kids) (k:=k) (j:=(pre.length:Int)) (x:=(x.i:Int)) (by omega) (by simpa using g2) rfl
    have k:=λh=>ih x (by rw[hl'];simp) h
    rw[hlk];rw[au];generalize (mu K).code (.af 1 [2,28,29,30] sA)=F;clear hl';unfold vsF;generalize iB (vtF p l) x=q at *
    obtain⟨a,e⟩:=q;simp only at k ⊢;by_cases e0:e=0
    ·subst e0;simp[sA,KL,aa,h1,hiy,w1,k]
    ·simp[sA,KL,aa,h1,hiy,w1,k,e0])
   (λb _=>by
    rw[hlk];rw[au];generalize (mu K).code (.af 1 [2,28,29,30] sA)=F;simp[sA]) () trivial
  simp only[adZ,ad5]at key;rw[Jv]at key;by_cases e1:(jm (vtF p l) ks).2=0
  ·rw[if_pos e1]at key;rw[Rt _ _ e1];obtain⟨_,env,k⟩:=key;simp[MF,KL,aa,k0,hix,k]
  ·rw[if_neg e1]at key;obtain⟨env,R,k,g4,g5⟩:=key;simp[MF,KL,aa,k0,hix,k,g4,g5]
theorem Tc(p:Po)(hp:Sz p)(l:Sl Sc)(hl:okL l)(hs:∀ s∈l.l,ju s=0):∀ (ts:List Tr) {c:Bool},kY p.nodes.l ts->WFs ts c->∀ t∈ts,∀ (h:Heap),
  (mu K).fn 101 [eX p l,.int .i64 (t.i:Int)] h=some (.val (.tup [.int .i64 (iB (vtF p l) t).1,.int .i64 (iB (vtF p l) t).2]) h)
 | [],c,_,_,t,ht,h=>by simp at ht
 |x :: ts,c,h1,h2,t,ht,h=>by
  rcases adY.1 ht with e |ht
  ·rw[e];exact f101 p hp l hl hs x h1.1 h2.1 h
  ·exact Tc p hp l hl hs ts h1.2 h2.2 t ht h
end
theorem f47(p:Po)(hp:Sz p)(l:Sl Sc)(hl:okL l)(t:Tr)(ht:chk p=0->Pol.Good p t)(h:Heap) :
  (mu K).fn 47 [p.av,l.avS Sc.av] h=some (.val (.tup [.int .i64 (fB p l.l t).1,.int .i64 (fB p l.l t).2]) h):=by
 have k92:=λh=>f85 p hp l hl h
 have key:=aD (K:=K) (n:=2) (live:=[6,24,25,26]) (a:=zV) (λ(_:Unit) (r:Rf)=>if (findF p.uses.l l.l r).isSome=true then (.inl ():Unit ⊕ Unit) else .inr ())
  (λpre _=>⟨[(6,.ptr (h.length,1) 0),(24,p.aA.avS Rf.av),(25,.int .i64 (p.aA.l.length:Int)),(26,.int .i64 (pre.length:Int))],[.box 26 false p.av,.box 170 false (eX p l)] :: h⟩) (λ_ _=>True)
  (λ_ o=>∃ env,o=some (.exit 0,⟨env,[.box 26 false p.av,.box 170 false (eX p l)] :: h⟩)∧get env 6=.ptr (h.length,1) 0)
  (λq o=>∃ env R,o=some (.ret,⟨env,R :: h⟩)∧get env 4=.int .i64 0∧get env 5=.int .i64 9) p.aA.l
  (λpre x r b hl' _=>by
   obtain⟨h1,h2,w1⟩:=aH hl' (by have:=hp.aA.1;omega);have hix:=λ(k:IntKind)=>aG (av:=Rf.av) (sz:=2) (s:=p.aA) (k:=k) (j:=(pre.length:Int)) (x:=x) (by omega) (by simpa using h2) rfl
   have k:=λh=>f86 p hp.uses.1 l hl x h
   rw[au];generalize (mu K).code (.af 2 [6,24,25,26] zV)=F;clear hl';cases e:findF p.uses.l l.l x with
   |none=>
    rw[e]at k;simp only[rG,pN]at k;simp[zV,KL,aa,h1,hix,w1,k]
   |some q=>
    obtain⟨u,k',f⟩:=q;rw[e]at k;simp only[rG,pN]at k;simp[zV,KL,aa,h1,hix,w1,k])
  (λb _=>by
   rw[au];generalize (mu K).code (.af 2 [6,24,25,26] zV)=F;simp[zV]) () trivial
 simp only[adZ,ad5]at key;rw[aB (KX _ _ _) acz rfl (by simp[c47])];unfold fB;by_cases hr:bI p l.l=0
 case neg=>
  rw[if_pos hr];simp[c47,KL,aa,k92,hr]
 rw[if_neg (by simp[hr])];have rp:=kI hr;have g:=ht rp.chk;cases c3:p.aA.l.all (λr=>(findF p.uses.l l.l r).isSome)
 ·rw[(aX (λr:Rf=>(findF p.uses.l l.l r).isSome) p.aA.l).2 c3]at key;obtain⟨env,R,k,g4,g5⟩:=key;simp[c47,KL,aa,k92,hr,k,g4,g5]
 ·rw[(aX (λr:Rf=>(findF p.uses.l l.l r).isSome) p.aA.l).1 c3]at key;obtain⟨_,env,k,g6⟩:=key;have k94:=λh=>f101 p hp l hl rp.sch t g.isT g.wf h
  rw[g.root]at k94;have ev:cg p.uses.l l.l=vtF p l:=funext λn=>aan rp.sch n
  rw[ev];simp[c47,KL,aa,k92,hr,k,g6,k94]
end Go.Ab.Pn
/-
  The field of a policy: the program.
-/
namespace Go.Ab.Pn
open Go.Ab.Pol
set_option maxRecDepth 100000
set_option maxHeartbeats 1000000
theorem ac3(h:Heap):(mu K).fn 87 [.lst []] h=some (.val (.lst []) h):=by
 have hX:K.X 87 [.lst []] h=some (.val (.lst []) h):=rfl;rw[dB];simp[step,gm,hX]
theorem ac4(h:Heap):(mu K).fn 87 [.aj] h=some (.val .aj h):=by
 rw[aB (KXc _ _ _ (by decide) (by simp)) YB rfl (by simp[c87])];simp[c87,KL,aa]
theorem f87(s:Sl Bs)(hs:s.l.length<=1000)(h:Heap):(mu K).fn 87 [s.avS .str] h=some (.val (s.avS .str) h):=by
 obtain⟨nl,l⟩:=s;cases l with
 |nil=>
  cases nl
  ·exact ac3 h
  ·exact ac4 h
 |cons x l=>
  have e:Sl.avS AV.str ⟨nl,x :: l⟩=.lst (.str x :: l.map .str):=rfl;simp only[ad1]at hs;have r1:(l.length+1)*16<=room:=by unfold room;omega
  have r2:l.length+1<=room:=by unfold room;omega
  rw[e];rw[aB (KXc _ _ _ (by decide) (by simp)) YB rfl (by simp[c87])];simp[c87,KL,aa,r1,r2]
def lV(p:Po)(l:List Sc)(r:Rf):Option (Nat×Nat×Pol.Fd)×Int:=if bI p l≠0 then (none,bI p l) else match findF p.uses.l l r with
 |none=>(none,9)
 |some q=>(some q,0)
theorem f38(p:Po)(hp:Sz p)(l:Sl Sc)(hl:okL l)(r:Rf)(h:Heap) :
  (mu K).fn 38 [p.av,l.avS Sc.av,r.av] h=some (.val (.tup [rG (lV p l.l r).1,pN (lV p l.l r).1,.int .i64 (lV p l.l r).2]) h):=by
 have k92:=λh=>f85 p hp l hl h
 have k93:=λh=>f86 p hp.uses.1 l hl r h
 rw[aB (KX _ _ _) acy rfl (by simp[c38])];unfold lV;by_cases hr:bI p l.l=0
 case neg=>
  rw[if_pos hr];simp[c38,KL,aa,k92,hr,rG,pN]
 rw[if_neg (by simp[hr])];cases e:findF p.uses.l l.l r with
 |none=>
  rw[e]at k93;simp only[rG,pN]at k93;simp[c38,KL,aa,k92,hr,k93,rG,pN]
 |some q=>
  obtain⟨u,k',f⟩:=q;rw[e]at k93;simp only[rG,pN]at k93;obtain⟨s,h1,h2⟩:=uj e;have k98:=λh=>f87 f.words ((hl.sc s h1).fields f h2).len h
  have q2:=ay _ cS f.words;simp[c38,KL,aa,k92,hr,k93,k98,rG,pN,q2]
end Go.Ab.Pn
/-
  The normal form: the program's small functions.
-/
namespace Go.Ab.Pn
open Go.Ab.Pol
set_option maxRecDepth 100000
set_option maxHeartbeats 2000000
abbrev LH(k num:Int)(vs:List Nd):AV:=.iface 252 (.agg [iV k,iV num,.str [],.str [],.aj,iV 0,Sl.avS Nd.av ⟨true,vs⟩])
mutual
def aO:Cd->AV
 |.atom k num vs=>LH k num vs
 |.gate need ks=>.iface 254 (.agg [iV need,.lst (AJ ks)])
def AJ:List Cd->List AV
 | []=>[]
 |c :: cs=>aO c :: AJ cs
end
theorem fq:∀ cs:List Cd,AJ cs=cs.map aO
 | []=>rfl
 |c :: cs=>by simp[AJ,fq cs]
@[simp] theorem Nw (q:Loc->Bool) (c:Cd):(aO c).aJ q=true:=by cases c<;>simp [aO,AV.aJ,AV.bQ]
@[simp] theorem ab2 (q:Loc->Bool) (c:Cd) (h:Heap):(aO c).view q h=some (aO c,h):=vO _ (Nw _ _) _ _
@[simp] theorem aaq (c:Cd):(aO c).cells=[aO c]:=by cases c<;>rfl
@[simp] theorem aar (c:Cd):(aO c).isAgg=false:=by cases c<;>rfl
@[simp] theorem ac5 (r:Loc->Loc) (c:Cd):(aO c).ren r=aO c:=by cases c<;>simp [aO,AV.ren,AV.uq]
abbrev cH(p:Po)(l:Sl Sc):AV:=.agg (p.cs++[l.avS Sc.av])
theorem f103(n:Int)(hn:How n)(h:Heap):(mu K).fn 103 [iV n] h=some (.val (iV (complement n)) h):=by
 rw[aB (KX _ _ _) YG rfl (by simp[TR])];rcases hn with rfl |rfl |rfl |rfl |rfl |rfl<;>simp[TR,KL,aa,complement]
theorem f163(n:Int)(hn:How n)(h:Heap):(mu K).fn 163 [iV n] h=some (.val (iV (dm n)) h):=by
 rw[aB (KX _ _ _) Zb rfl (by simp[T4])];rcases hn with rfl |rfl |rfl |rfl |rfl |rfl<;>simp[T4,KL,aa,dm]
theorem f107(b:Bool)(h:Heap):(mu K).fn 107 [.bool b] h=some (.val (aO (cB b)) h):=by
 rw[aB (KX _ _ _) YK rfl (by simp[TS])];cases b<;>simp[TS,KL,aa,cB,aO,Sl.avS,lv]
theorem f169(n:Int)(h:Heap):(mu K).fn 169 [iV n] h=some (.val (bw n).av h):=by
 rw[aB (KX _ _ _) Zh rfl (by simp[T7])];simp[T7,KL,aa,bw,Sl.avS,lv]
theorem f168(how:Int)(a b:Nd)(h:Heap):(mu K).fn 168 [iV how,a.av,b.av] h=some (.val (aO (dL how a b)) h):=by
 have qa:=ay _ bJ a.kids;have qb:=ay _ bJ b.kids;have e:∀ n m:Nd,Sl.avS Nd.av ⟨true,[n,m]⟩=.lst [n.av,m.av]:=λn m=>by simp[Sl.avS,lv]
 rw[aB (KX _ _ _) Zg rfl (by simp[T6])];simp[T6,KL,aa,dL,aO,e,qa,qb]
theorem f164(how a b:Int)(h:Heap):(mu K).fn 164 [iV how,iV a,iV b] h=some (.val (.bool (dG how a b)) h):=by
 rw[aB (KX _ _ _) Zc rfl (by simp[E7])];unfold dG;by_cases h0:how=0
 ·simp[E7,KL,aa,h0]
 by_cases h1:how=1
 ·simp[E7,KL,aa,h1]
 by_cases h2:how=2
 ·simp[E7,KL,aa,h2]
 by_cases h3:how=3
 ·simp[E7,KL,aa,h3]
 by_cases h4:how=4
 ·simp[E7,KL,aa,h4]
 ·simp[E7,KL,aa,h0,h1,h2,h3,h4]
theorem fdR{p:Po}{l:List Sc}(hr:bI p l=0)(n:Nd):pN (lV p l ⟨n.nm,n.attr⟩).1=(ak p.uses.l l n).av:=by
 unfold lV ak;rw[if_neg (by simp[hr])];cases findF p.uses.l l ⟨n.nm,n.attr⟩ with
 |none=>simp[pN,zFd,Sl.avS,lv]
 |some q=>obtain⟨u,k,f⟩:=q;rfl
theorem f166(p:Po)(hp:Sz p)(l:Sl Sc)(hl:okL l)(hr:bI p l.l=0)(n:Nd)(h:Heap):(mu K).fn 166 [cH p l,n.av] h=some (.val (ak p.uses.l l.l n).av h):=by
 have k40:=λh=>f38 p hp l hl ⟨n.nm,n.attr⟩ h
 have e:=fdR hr n;obtain⟨a,b,hab⟩:∃ a b,rG (lV p l.l ⟨n.nm,n.attr⟩).1=.agg [iV a,iV b]:=by
  cases (lV p l.l ⟨n.nm,n.attr⟩).1 with
  |none=>exact⟨0,0,rfl⟩
  |some q=>obtain⟨u,k,f⟩:=q;exact⟨_,_,rfl⟩
 simp only[e,hab]at k40;generalize ak p.uses.l l.l n=f at *
 rw[aB (KX _ _ _) Ze rfl (by simp[T5])];simp[T5,KL,aa,k40]
end Go.Ab.Pn
/-
  The normal form: ranges and comparisons of fields.
-/
namespace Go.Ab.Pn
open Go.Ab.Pol
set_option maxRecDepth 100000
set_option maxHeartbeats 2000000
structure FdX (f:Pol.Fd):Prop where
 kind:f.kind=0∨f.kind=1
 lo:-2147483648<=f.mn
 hi:f.mx<=2147483647
 le:f.mn<=f.mx
theorem UG{f:Pol.Fd}(h:dh f=0):FdX f:=by
 unfold dh at h;split at h
 ·rename_i k0;split at h
  ·simp at h
  split at h
  ·simp at h
  ·rename_i c;exact⟨.inl k0,by omega,by omega,by omega⟩
 split at h
 ·rename_i k1;split at h
  ·simp at h
  ·rename_i c;exact⟨.inr k1,by omega,by omega,by omega⟩
 ·simp at h
theorem xx:∀ {l:List Pol.Fd} {met:List Bs},fT met l=0->∀ f∈l,dh f=0
 | [],_,_,f,hf=>by cases hf
 |x :: l,met,h,f,hf=>by
  simp only[fT]at h;split at h
  ·simp at h
  split at h
  ·simp at h
  split at h
  ·rename_i a;exact absurd h a
  ·rename_i a;rcases adY.1 hf with rfl |hf
   ·simpa using a
   ·exact xx h f hf
theorem Ru{s:Sc}(h:ju s=0){f:Pol.Fd}(hf:f∈s.fields.l):FdX f:=by
 unfold ju at h;split at h
 ·simp at h
 split at h
 ·simp at h
 ·exact UG (xx h f hf)
theorem Ny{p:Po}{l:List Sc}(hs:∀ s∈l,ju s=0)(n:Nd):FdX (ak p.uses.l l n):=by
 unfold ak;cases e:findF p.uses.l l ⟨n.nm,n.attr⟩ with
 |none=>exact⟨.inl rfl,by simp[zFd],by simp[zFd],by simp[zFd]⟩
 |some q=>
  obtain⟨u,k,f⟩:=q;obtain⟨s,h1,h2⟩:=uj e;exact Ru (hs s h1) h2
section
variable(p:Po)(hp:Sz p)(l:Sl Sc)(hl:okL l)(hr:bI p l.l=0)
include hp hl hr
theorem f109(x:Nd)(lo hi:Int)(h:Heap):(mu K).fn 109 [cH p l,x.av,iV lo,iV hi] h=some (.val (aO (within (ak p.uses.l l.l) x lo hi)) h):=by
 have jz:=λh=>f166 p hp l hl hr x h
 unfold within;generalize ak p.uses.l l.l x=f at *
 have m1:kG true (iV lo) [iV f.mn]=some (iV (max lo f.mn)):=by
  simp only[kG,if_true]
  congr 2
  split<;>omega
 have m2:kG false (iV hi) [iV f.mx]=some (iV (min hi f.mx)):=by
  simp only[kG]
  congr 2
  split<;>simp_all<;>omega
 generalize max lo f.mn=A at *
 generalize min hi f.mx=B at *
 have q1:=ay _ dR p.uses;have q2:=ay _ fK p.aA;have q3:=ay _ dK p.nodes;have q4:=ay _ fC l;have qx:=ay _ bJ x.kids;have mH:=λb h=>f107 b h
 have FC:=λn a b h=>f168 n a b h
 have LI:=λn h=>f169 n h
 have nav:∀ n:Int,(bw n).av=.agg [iV 10,iV n,.str [],.str [],.aj,iV 0]:=λn=>by simp[bw,Sl.avS,lv]
 simp only[cH,Po.cs,ad4,aeb]at jz ⊢;rw[aB (KX _ _ _) YM rfl (by simp[E6])];by_cases c1:B<A
 ·simp[E6,KL,aa,jz,m1,m2,q1,q2,q3,q4,qx,c1,mH]
 by_cases c2:A=f.mn∧B=f.mx
 ·obtain⟨c2,c3⟩:=c2;have d1:(f.mx<f.mn)=False:=by simp;omega
  simp[E6,KL,aa,jz,m1,m2,q1,q2,q3,q4,qx,c2,c3,d1,mH]
 by_cases c3:A=B
 ·have CP:=FC 0 x (bw B);rw[nav]at CP;subst c3;by_cases d:A=f.mn
  ·subst d;have d2:(f.mn=f.mx)=False:=by simp;intro q;exact c2 ⟨rfl,q⟩
   simp[E6,KL,aa,jz,m1,m2,q1,q2,q3,q4,qx,d2,LI,nav,CP]
  ·simp[E6,KL,aa,jz,m1,m2,q1,q2,q3,q4,qx,d,LI,nav,CP]
 ·have e3:Sl.avS Nd.av ⟨true,[x,bw A,bw B]⟩=.lst [x.av,(bw A).av,(bw B).av]:=by simp[Sl.avS,lv]
  rw[if_neg c1,if_neg c2,if_neg c3];simp only[aO,LH,e3,nav];by_cases d:A=f.mn
  ·subst d;have d2:(B=f.mx)=False:=by simp;intro q;exact c2 ⟨rfl,q⟩
   simp[E6,KL,aa,jz,m1,m2,q1,q2,q3,q4,qx,c1,c3,d2,LI,nav]
  ·simp[E6,KL,aa,jz,m1,m2,q1,q2,q3,q4,qx,c1,c3,d,LI,nav]
theorem f165(how:Int)(hh:How how)(x:Nd)(c:Int)(hc:-2147483648<=c∧c<=2147483647)(h:Heap):(mu K).fn 165 [cH p l,iV how,x.av,iV c] h=some (.val (aO (bounded (ak p.uses.l l.l) how x c)) h):=by
 have jz:=λh=>f166 p hp l hl hr x h
 have D6:=λlo hi h=>f109 p hp l hl hr x lo hi h
 unfold bounded;generalize hW:within (ak p.uses.l l.l) x=W at *
 generalize ak p.uses.l l.l x=f at *
 have q1:=ay _ dR p.uses;have q2:=ay _ fK p.aA;have q3:=ay _ dK p.nodes;have q4:=ay _ fC l;have qx:=ay _ bJ x.kids;have mH:=λb h=>f107 b h
 have FC:=λn a b h=>f168 n a b h
 have LI:=λn h=>f169 n h
 have w1:IntKind.i64.wrap (c-1)=c-1:=wrap64 (by omega) (by omega);have w2:IntKind.i64.wrap (c+1)=c+1:=wrap64 (by omega) (by omega);have nav:∀ n:Int,(bw n).av=.agg [iV 10,iV n,.str [],.str [],.aj,iV 0]:=λn=>by simp[bw,Sl.avS,lv]
 simp only[cH,Po.cs,ad4,aeb]at jz D6 ⊢;rw[aB (KX _ _ _) Zd rfl (by simp[Ae])];rcases hh with rfl |rfl |rfl |rfl |rfl |rfl
 ·simp[Ae,KL,aa,jz,D6,q1,q2,q3,q4,qx,w1,w2]
 ·have CP:=FC 1 x (bw c);rw[nav]at CP;by_cases c1:c<f.mn
  ·simp[Ae,KL,aa,jz,q1,q2,q3,q4,qx,c1,mH]
  by_cases c2:f.mx<c
  ·simp[Ae,KL,aa,jz,q1,q2,q3,q4,qx,c1,c2,mH]
  by_cases c3:f.mn=f.mx
  ·have c1':(c<f.mx)=False:=by simp;omega
   simp[Ae,KL,aa,jz,q1,q2,q3,q4,qx,c1',c2,c3,mH]
  ·simp[Ae,KL,aa,jz,q1,q2,q3,q4,qx,c1,c2,c3,LI,nav,CP]
 ·simp[Ae,KL,aa,jz,D6,q1,q2,q3,q4,qx,w1,w2]
 ·simp[Ae,KL,aa,jz,D6,q1,q2,q3,q4,qx,w1,w2]
 ·simp[Ae,KL,aa,jz,D6,q1,q2,q3,q4,qx,w1,w2]
 ·simp[Ae,KL,aa,jz,D6,q1,q2,q3,q4,qx,w1,w2]
end
end Go.Ab.Pn
