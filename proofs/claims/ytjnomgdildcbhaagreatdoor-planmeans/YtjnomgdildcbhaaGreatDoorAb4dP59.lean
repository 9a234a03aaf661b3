/-
  The meaning of a policy: the program. Conditions over values.
-/
import Derived.Test.YtjnomgdildcbhaaGreatDoorAb4dP52
import Derived.Test.YtjnomgdildcbhaaGreatDoorAbOrd
set_option linter.unusedVariables false
set_option linter.unusedSimpArgs false
set_option linter.unusedSectionVars false
namespace Go.Ab.Pn
open Go.Ab.Pol
set_option maxRecDepth 100000
set_option maxHeartbeats 4000000
def sgB(how c:Int):Bool:=
 if how=0 then decide (c=0) else if how=1 then decide (c≠0) else if how=2 then decide (c<0) else if how=3 then decide (c<=0) else if how=4 then decide (0<c) else decide (0<=c)
theorem Rh{how:Int}(hh:How how)(a b:Int):sgB how (pK a b)=dG how a b:=by
 unfold pK;by_cases h1:a<b
 ·rcases hh with rfl |rfl |rfl |rfl |rfl |rfl<;>simp[sgB,dG,h1]<;>omega
 by_cases h2:b<a
 ·rcases hh with rfl |rfl |rfl |rfl |rfl |rfl<;>simp[sgB,dG,h1,h2]<;>omega
 ·rcases hh with rfl |rfl |rfl |rfl |rfl |rfl<;>simp[sgB,dG,h1,h2]<;>omega
theorem Nn{how:Int}(hh:how=0∨how=1)(a b:Bs):sgB how (cI (.word a) (.word b))=dx how (.word a) (.word b):=by
 have:=Jq a b;rcases hh with rfl |rfl<;>simp[sgB,dx,cI,this]
def Ev(p:Po)(l:Sl Sc)(xs:Sl (Sl Int))(o:Loc)(m:Nat)(j:Int)(v:Vl):Prop:=
 ∀ a h,hget h a=some (.box 221 false (zh p l xs o m))->a.1<h.length->(mu K).fn 247 [.ptr a 0,iV j] h=some (.val (iP v) h)
theorem gA(f:Loc->Bool)(v:Vl)(h:Heap):AV.view f (iP v) h=some (iP v,h):=by cases v<;>simp[iP,AV.view]
theorem eV(f:Loc->Bool)(v:Vl):AV.aJ f (iP v)=true:=by cases v<;>simp[iP,AV.aJ]
theorem rL:List.lookup (320:TypeId) [((319:TypeId),(279:FuncId)),(320,282)]=some 282:=rfl
section
variable{p:Po}{l:Sl Sc}{xs:Sl (Sl Int)}{o:Loc}{m:Nat}
theorem f225(i:Nat)(n:Nd)(hn:p.nodes.l[i]?=some n)(x y:Int)(hk:n.kids.l=[x,y])(hh:How n.num){u v:Vl}(e1:Ev p l xs o m x u)(e2:Ev p l xs o m y v)
  (a:Loc) (h:Heap) (ha:hget h a=some (.box 221 false (zh p l xs o m))) (hal:a.1<h.length) :
  (mu K).fn 225 [.ptr a 0,iV (i:Int)] h=some (.val (.bool (sgB n.num (cI u v))) h):=by
 have ne:(h.length=a.1)=False:=by simp;omega
 have ne2:(a.1=h.length)=False:=by simp;omega
 have hin:=λ(k:IntKind)=>aG (av:=Nd.av) (sz:=6) (s:=p.nodes) (k:=k) (j:=(i:Int)) (x:=n) (by omega) (by simpa using hn) rfl
 have h0:=λ(k:IntKind)=>aG (av:=iV) (sz:=1) (s:=n.kids) (k:=k) (j:=0) (x:=x) (by omega) (by simp[hk]) rfl
 have h1:=λ(k:IntKind)=>aG (av:=iV) (sz:=1) (s:=n.kids) (k:=k) (j:=1) (x:=y) (by omega) (by simp[hk]) rfl
 have bk:=ay _ bJ n.kids;have hs:∀ b:Blk,hget ([b] :: h) a=some (.box 221 false (zh p l xs o m)):=λb=>by simpa[hget,ne,ne2]using ha
 have k1:=λb=>e1 a ([b] :: h) (hs b) (by simp;omega)
 have k2:=λb=>e2 a ([b] :: h) (hs b) (by simp;omega)
 rw[aB (KX _ _ _) ZH rfl (by simp[QN])];cases u with
 |num q=>
  have k3:=λh=>f279 q v h
  generalize cI (.num q) v=c at *
  simp only[iP]at k1;rcases hh with hq |hq |hq |hq |hq |hq<;>simp[QN,KL,aa,ha,hget,ne,ne2,hin,h0,h1,bk,k1,k2,k3,hq,sgB,gA,eV,rL]
 |word q=>
  have k3:=λh=>f282 q v h
  generalize cI (.word q) v=c at *
  simp only[iP]at k1;rcases hh with hq |hq |hq |hq |hq |hq<;>simp[QN,KL,aa,ha,hget,ne,ne2,hin,h0,h1,bk,k1,k2,k3,hq,sgB,gA,eV,rL]
theorem f226(i:Nat)(n:Nd)(hn:p.nodes.l[i]?=some n)(x y z:Int)(hk:n.kids.l=[x,y,z]){u v v2:Vl}(e1:Ev p l xs o m x u)(e2:Ev p l xs o m y v)(e3:Ev p l xs o m z v2)
  (a:Loc) (h:Heap) (ha:hget h a=some (.box 221 false (zh p l xs o m))) (hal:a.1<h.length) :
  (mu K).fn 226 [.ptr a 0,iV (i:Int)] h=some (.val (.bool (sgB 5 (cI u v)&&sgB 3 (cI u v2))) h):=by
 have ne:(h.length=a.1)=False:=by simp;omega
 have ne2:(a.1=h.length)=False:=by simp;omega
 have hin:=λ(k:IntKind)=>aG (av:=Nd.av) (sz:=6) (s:=p.nodes) (k:=k) (j:=(i:Int)) (x:=n) (by omega) (by simpa using hn) rfl
 have h0:=λ(k:IntKind)=>aG (av:=iV) (sz:=1) (s:=n.kids) (k:=k) (j:=0) (x:=x) (by omega) (by simp[hk]) rfl
 have h1:=λ(k:IntKind)=>aG (av:=iV) (sz:=1) (s:=n.kids) (k:=k) (j:=1) (x:=y) (by omega) (by simp[hk]) rfl
 have h2:=λ(k:IntKind)=>aG (av:=iV) (sz:=1) (s:=n.kids) (k:=k) (j:=2) (x:=z) (by omega) (by simp[hk]) rfl
 have bk:=ay _ bJ n.kids;have hs:∀ b:Blk,hget ([b] :: h) a=some (.box 221 false (zh p l xs o m)):=λb=>by simpa[hget,ne,ne2]using ha
 have k1:=λb=>e1 a ([b] :: h) (hs b) (by simp;omega)
 have k2:=λb=>e2 a ([b] :: h) (hs b) (by simp;omega)
 have k2':=λb=>e3 a ([b] :: h) (hs b) (by simp;omega)
 rw[aB (KX _ _ _) ZI rfl (by simp[La])];have s5:∀ c,sgB 5 c=decide (0<=c):=λc=>by simp[sgB]
 have s3:∀ c,sgB 3 c=decide (c<=0):=λc=>by simp[sgB]
 rw[s5,s3];cases u with
 |num q=>
  have k3:=λh=>f279 q v h
  have k4:=λh=>f279 q v2 h
  generalize cI (.num q) v=c at *
  generalize cI (.num q) v2=c2 at *
  simp only[iP]at k1;by_cases hc:0<=c
  ·have hc2:(0<=c)=True:=by simp[hc]
   simp[La,KL,aa,ha,hget,ne,ne2,hin,h0,h1,h2,bk,k1,k2,k2',k3,k4,hc2,gA,eV,rL]
  ·have hc2:(0<=c)=False:=by simp[hc]
   simp[La,KL,aa,ha,hget,ne,ne2,hin,h0,h1,h2,bk,k1,k2,k2',k3,k4,hc2,gA,eV,rL]
 |word q=>
  have k3:=λh=>f282 q v h
  have k4:=λh=>f282 q v2 h
  generalize cI (.word q) v=c at *
  generalize cI (.word q) v2=c2 at *
  simp only[iP]at k1;by_cases hc:0<=c
  ·have hc2:(0<=c)=True:=by simp[hc]
   simp[La,KL,aa,ha,hget,ne,ne2,hin,h0,h1,h2,bk,k1,k2,k2',k3,k4,hc2,gA,eV,rL]
  ·have hc2:(0<=c)=False:=by simp[hc]
   simp[La,KL,aa,ha,hget,ne,ne2,hin,h0,h1,h2,bk,k1,k2,k2',k3,k4,hc2,gA,eV,rL]
end
end Go.Ab.Pn
/-
  The meaning of a policy: the program. In.
-/
namespace Go.Ab.Pn
open Go.Ab.Pol
set_option maxRecDepth 100000
set_option maxHeartbeats 4000000
section
variable{p:Po}{l:Sl Sc}{xs:Sl (Sl Int)}{o:Loc}{m:Nat}
theorem f227(i:Nat)(n:Nd)(hn:p.nodes.l[i]?=some n)(x:Int)(r:List Int)(hk:n.kids.l=x :: r)(hlen:n.kids.l.length<=1000){u:Vl}(g:Int->Vl)(e1:Ev p l xs o m x u)(e2:∀ y∈r,Ev p l xs o m y (g y))
  (a:Loc) (h:Heap) (ha:hget h a=some (.box 221 false (zh p l xs o m))) (hal:a.1<h.length) :
  (mu K).fn 227 [.ptr a 0,iV (i:Int)] h=some (.val (.bool (r.any λy=>sgB 0 (cI u (g y)))) h):=by
 have ne:(h.length=a.1)=False:=by simp;omega
 have ne2:(a.1=h.length)=False:=by simp;omega
 have hin:=λ(k:IntKind)=>aG (av:=Nd.av) (sz:=6) (s:=p.nodes) (k:=k) (j:=(i:Int)) (x:=n) (by omega) (by simpa using hn) rfl
 have h0:=λ(k:IntKind)=>aG (av:=iV) (sz:=1) (s:=n.kids) (k:=k) (j:=0) (x:=x) (by omega) (by simp[hk]) rfl
 have bk:=ay _ bJ n.kids;have hs:∀ b:Blk,hget ([b] :: h) a=some (.box 221 false (zh p l xs o m)):=λb=>by simpa[hget,ne,ne2]using ha
 have k1:=λb=>e1 a ([b] :: h) (hs b) (by simp;omega)
 have s0:∀ c,sgB 0 c=decide (c=0):=λc=>by simp[sgB]
 have hkk:n.kids.avS iV=.lst ((x :: r).map iV):=by
  unfold Sl.avS;rw[hk];exact jK _ (by simp)
 have hrl:r.length<=1000:=by rw[hk]at hlen;simp at hlen;omega
 have key:=aD (K:=K) (n:=1) (live:=[0,6,25,26,27]) (a:=oU) (λ(_:Unit) (y:Int)=>if (!(sgB 0 (cI u (g y))))=true then (.inl ():Unit ⊕ Unit) else .inr ())
  (λpre _=>⟨[(0,.ptr a 0),(6,iP u),(25,.lst (r.map iV)),(26,iV (r.length:Int)),(27,iV (pre.length:Int))],[.box 90 false n.av] :: h⟩) (λ_ _=>True)
  (λ_ o=>∃ env,o=some (.exit 0,⟨env,[.box 90 false n.av] :: h⟩))
  (λ_ o=>∃ env R,o=some (.ret,⟨env,R :: h⟩)∧get env 4=.bool true) r
  (λpre y q b hl' hb=>by
   obtain⟨h1,h2,w1⟩:=aH hl' (by omega);have hix:=λ(k:IntKind)=>dU (sz:=1) (l:=r.map iV) (k:=k) (j:=(pre.length:Int)) (v:=iV y) (by omega) (by rw[aev,aeh,h2];rfl) rfl
   have hy:y∈r:=by rw[hl'];simp
   have k2:=λb=>e2 y hy a ([b] :: h) (hs b) (by simp;omega)
   rw[au];generalize (mu K).code (.af 1 [0,6,25,26,27] oU)=F;clear hl';rw[s0];cases u with
   |num qq=>
    have k3:=λh=>f279 qq (g y) h
    generalize cI (.num qq) (g y)=c at *
    simp only[iP];by_cases hc:c=0
    ·have hc2:(c=0)=True:=by simp[hc]
     simp[oU,KL,aa,h1,hix,w1,k2,k3,hc2,gA,eV,rL,ne,ne2]
    ·simp[oU,KL,aa,h1,hix,w1,k2,k3,hc,gA,eV,rL,ne,ne2]
   |word qq=>
    have k3:=λh=>f282 qq (g y) h
    generalize cI (.word qq) (g y)=c at *
    simp only[iP];by_cases hc:c=0
    ·have hc2:(c=0)=True:=by simp[hc]
     simp[oU,KL,aa,h1,hix,w1,k2,k3,hc2,gA,eV,rL,ne,ne2]
    ·simp[oU,KL,aa,h1,hix,w1,k2,k3,hc,gA,eV,rL,ne,ne2])
  (λb _=>by
   rw[au];generalize (mu K).code (.af 1 [0,6,25,26,27] oU)=F;simp[oU]) () trivial
 simp only[adZ,ad5]at key;rw[aB (KX _ _ _) ZJ rfl (by simp[QO])];have hpos:(1:Int)<=(r.length:Int)+1:=by omega
 have tk:(r.map iV).take r.length=r.map iV:=afj (by simp);cases e:r.any (λy=>sgB 0 (cI u (g y))) with
 |false=>
  have e':r.all (λy=>!(sgB 0 (cI u (g y))))=true:=by
   rw[aek];intro y hy;simpa using List.any_eq_false.1 e y hy
  rw[(aX (λy=>!(sgB 0 (cI u (g y)))) r).1 e']at key;obtain⟨_,env,k⟩:=key;simp[oU]at k;simp[QO,KL,aa,ha,hget,ne,ne2,hin,h0,bk,k1,hkk,-List.map_take,tk,k,gA,eV,hpos,tk]
 |true=>
  have e':r.all (λy=>!(sgB 0 (cI u (g y))))=false:=by
   rw[List.all_eq_false];obtain⟨y,hy,h⟩:=afe.1 e;exact⟨y,hy,by simp[h]⟩
  rw[(aX (λy=>!(sgB 0 (cI u (g y)))) r).2 e']at key;obtain⟨env,R,k,g4⟩:=key;simp[oU]at k;simp[QO,KL,aa,ha,hget,ne,ne2,hin,h0,bk,k1,hkk,-List.map_take,tk,k,g4,gA,eV,hpos,tk]
end
end Go.Ab.Pn
/-
  The meaning of a policy: the program. The conditions of a policy, one after another.
-/
namespace Go.Ab.Pn
open Go.Ab.Pol
set_option maxRecDepth 100000
set_option maxHeartbeats 4000000
abbrev bB(B:List Bool):List AV:=B.map .bool
abbrev FE(fp:List Blk)(fm:Nat)(p:Po)(l:Sl Sc)(xs:Sl (Sl Int))(B:List Bool)(o:Heap):Heap:=
 (fp++[.arr 4 1 false (bB B),.box 221 false (zh p l xs (o.length,fm) B.length)]) :: o
theorem LC{fp:List Blk}{fm:Nat}(h:fp.length=fm)(x y:Blk):(fp++[x,y])[fm]?=some x:=by subst h;simp
theorem HZ{fp:List Blk}{fm:Nat}(h:fp.length=fm)(x y:Blk):(fp++[x,y])[fm+1]?=some y:=by subst h;simp
theorem acY{fp:List Blk}{fm:Nat}(h:fp.length=fm)(x y z:Blk):(fp++[x,y]).set fm z=fp++[z,y]:=by subst h;simp
section
variable(vl:Nd->Vl)
mutual
def mark:Tr->List Bool->List Bool
 |.nd i n ks,B=>(if 2<=n.k∧n.k<=5 then marks ks B else B).set i (truth vl (.nd i n ks))
def marks:List Tr->List Bool->List Bool
 | [],B=>B
 |t :: ts,B=>marks ts (mark t B)
end
mutual
theorem AA:∀ (t:Tr) (B:List Bool),(mark vl t B).length=B.length
 |.nd i n ks,B=>by
  unfold mark;split<;>simp[qM ks B]
theorem qM:∀ (ts:List Tr) (B:List Bool),(marks vl ts B).length=B.length
 | [],B=>rfl
 |t :: ts,B=>by
  unfold marks;rw[qM ts,AA t]
end
theorem AB:∀ (ts:List Tr) (B:List Bool) (c:Nat),iter (λ(b:List Bool×Nat) (x:Tr)=>(.inl (mark vl x b.1,b.2+if truth vl x then 1 else 0):(List Bool×Nat) ⊕ Unit)) (B,c) ts=.inl (marks vl ts B,c+cT vl ts)
 | [],B,c=>by simp[iter,marks,cT]
 |t :: ts,B,c=>by
  simp only[iter,marks,cT];rw[AB ts]
  congr 2
  omega
end
section
variable{fp:List Blk}{fm:Nat}(hm:fp.length=fm)
include hm
variable{p:Po}{l:Sl Sc}{xs:Sl (Sl Int)}
theorem LD(o:Heap)(T:List (List Blk))(i:Nat)(n:Nd)(hn:p.nodes.l[i]?=some n)(k:Nat)(hk:n.k=(k:Int))(hk8:k<=8)(B B':List Bool)(hB:B'.length=B.length)(hi:i<B.length)(r:Bool)
  (km:(mu K).fn (219+k) [.ptr (o.length,fm+1) 0,iV (i:Int)] ([] :: (T++FE fp fm p l xs B o))=some (.val (.bool r) ([] :: (T++FE fp fm p l xs B' o)))) :
  (mu K).fn 134 [.ptr (o.length,fm+1) 0,iV (i:Int)] (T++FE fp fm p l xs B o)=some (.val (.bool r) (T++FE fp fm p l xs (B'.set i r) o)):=by
 have ne:(o.length=T.length+(o.length+1))=False:=by simp;omega
 have hix:=λ(k:IntKind)=>aG (av:=Nd.av) (sz:=6) (s:=p.nodes) (k:=k) (j:=(i:Int)) (x:=n) (by omega) (by simpa using hn) rfl
 have acZ:∀ h,(mu K).fn 176 [] h=some (.val (.agg [.fn (.func 219) [] [],.fn (.func 220) [] [],.fn (.func 221) [] [],.fn (.func 222) [] [],.fn (.func 223) [] [],.fn (.func 224) [] [],.fn (.func 225) [] [],.fn (.func 226) [] [],.fn (.func 227) [] []]) h):=λh=>by
  rw[aB (KX _ _ _) Zk rfl (by simp[T8])];simp[T8,KL,aa]
 have q3:=ay _ dK p.nodes;have hi':i<B'.length:=by omega
 have hii:(i:Int)<(B.length:Int):=by omega
 rw[aB (KX _ _ _) Y2 rfl (by simp[TY])];obtain rfl |rfl |rfl |rfl |rfl |rfl |rfl |rfl |rfl:k=0∨k=1∨k=2∨k=3∨k=4∨k=5∨k=6∨k=7∨k=8:=by omega
 all_goals
  simp only[aeF,Nat.reduceAdd,FE]at km;simp[TY,KL,aa,ne,bf,dW,LC hm,HZ hm,acY hm,hix,hk,acZ,km,q3,hB,hi,hi',hii]
theorem f246(o:Heap)(i:Nat)(n:Nd)(hn:p.nodes.l[i]?=some n)(vl:Nd->Vl)(ks:List Tr)(hks:n.kids.l=ks.map λk=>(k.i:Int))(hl:n.kids.l.length<=1000)(N:Nat)
  (ih:∀ x∈ks,∀ (T:List (List Blk)) (B:List Bool),B.length=N->(mu K).fn 134 [.ptr (o.length,fm+1) 0,iV (x.i:Int)] (T++FE fp fm p l xs B o)=some (.val (.bool (truth vl x)) (T++FE fp fm p l xs (mark vl x B) o)))
  (T:List (List Blk)) (B:List Bool) (hB:B.length=N) :
  (mu K).fn 246 [.ptr (o.length,fm+1) 0,iV (i:Int)] (T++FE fp fm p l xs B o)=some (.val (iV (cT vl ks:Int)) (T++FE fp fm p l xs (marks vl ks B) o)):=by
 have ne:(o.length=T.length+(o.length+1))=False:=by simp;omega
 have lk:n.kids.l.length=ks.length:=by rw[hks];simp
 have hix:=λ(k:IntKind)=>aG (av:=Nd.av) (sz:=6) (s:=p.nodes) (k:=k) (j:=(i:Int)) (x:=n) (by omega) (by simpa using hn) rfl
 have key:=aD (K:=K) (n:=0) (live:=[0,5,16,17,18]) (a:=sN) (λ(b:List Bool×Nat) (x:Tr)=>(.inl (mark vl x b.1,b.2+if truth vl x then 1 else 0):(List Bool×Nat) ⊕ Unit))
  (λpre b=>⟨[(0,.ptr (o.length,fm+1) 0),(5,iV (b.2:Int)),(16,n.kids.avS iV),(17,iV (ks.length:Int)),(18,iV (pre.length:Int))],[] :: (T++FE fp fm p l xs b.1 o)⟩)
  (λpre b=>b.1.length=N∧b.2<=pre.length)
  (λb r=>∃ env,r=some (.exit 0,⟨env,[] :: (T++FE fp fm p l xs b.1 o)⟩)∧get env 5=iV (b.2:Int)) (λ_ _=>False) ks
  (λpre x r b hl' hb=>by
   obtain⟨hb1,hb2⟩:=hb;obtain⟨h1,h2,w1⟩:=aH hl' (by omega);have g1:n.kids.l[pre.length]?=some (x.i:Int):=by rw[hks,aeh,h2];rfl
   have hiy:=λ(k:IntKind)=>aG (av:=iV) (sz:=1) (s:=n.kids) (k:=k) (j:=(pre.length:Int)) (x:=(x.i:Int)) (by omega) (by simpa using g1) rfl
   have k:=ih x (aee h2) ([] :: T) b.1 hb1;have w2:IntKind.i64.wrap ((b.2:Int)+1)=(b.2:Int)+1:=wrap64 (by omega) (by have:pre.length<ks.length:=(adW.1 h2).1;omega);simp only[ad4]at k;refine⟨λb' e=>?_,λ_ e=>(by cases e)⟩;injection e with e
   subst e;have hm:=AA vl x b.1;rw[au];generalize (mu K).code (.af 0 [0,5,16,17,18] sN)=F;clear hl';simp only[FE]at k ⊢;cases e:truth vl x
   ·rw[e]at k;refine⟨⟨by simp[hm,hb1],by simp;omega⟩,?_⟩;simp[sN,KL,aa,h1,hiy,w1,k,e]
   ·rw[e]at k;refine⟨⟨by simp[hm,hb1],by simp;omega⟩,?_⟩;simp[sN,KL,aa,h1,hiy,w1,w2,k,e])
  (λb _=>by
   rw[au];generalize (mu K).code (.af 0 [0,5,16,17,18] sN)=F;simp[sN]) (B,0) ⟨hB,by simp⟩
 simp only[adZ,ad5]at key;rw[AB]at key;obtain⟨_,env,k,g5⟩:=key;simp only[ad7]at k g5;rw[aB (KX _ _ _) ZT rfl (by simp[Uh])];simp only[FE]at k ⊢;simp[Uh,KL,aa,ne,bf,LC hm,HZ hm,hix,lk,k,g5]
end
end Go.Ab.Pn
/-
  The meaning of a policy: the program. The tree of conditions.
-/
namespace Go.Ab.Pn
open Go.Ab.Pol
set_option maxRecDepth 100000
set_option maxHeartbeats 4000000
section
variable{p:Po}{l:Sl Sc}{xs:Sl (Sl Int)}
structure H6 (p:Po)(l:Sl Sc)(xs:Sl (Sl Int))(o:Loc)(N:Nat)(vl:Nd->Vl)(s:Tr):Prop where
 ev:6<=s.n.k->∀ q∈s.ks,Ev p l xs o N (q.i:Int) (vl q.n)
 cmp:s.n.k=6->∀ a b,s.ks=[a,b]->How s.n.num∧sgB s.n.num (cI (vl a.n) (vl b.n))=dx s.n.num (vl a.n) (vl b.n)
 btw:s.n.k=7->∀ a b c,s.ks=[a,b,c]->sgB 5 (cI (vl a.n) (vl b.n))=dx 5 (vl a.n) (vl b.n)∧sgB 3 (cI (vl a.n) (vl c.n))=dx 3 (vl a.n) (vl c.n)
 inn:s.n.k=8->∀ a r,s.ks=a :: r->∀ b∈r,sgB 0 (cI (vl a.n) (vl b.n))=dx 0 (vl a.n) (vl b.n)
theorem Np{α:Type}{l:List α}(h:l.length=2):∃ a b,l=[a,b]:=by
 match l,h with
 | [a,b],_=>exact⟨a,b,rfl⟩
theorem Fx{α:Type}{l:List α}(h:l.length=3):∃ a b c,l=[a,b,c]:=by
 match l,h with
 | [a,b,c],_=>exact⟨a,b,c,rfl⟩
theorem LF:∀ t:Tr,t∈t.subs:=λt=>by cases t;simp[Tr.subs]
theorem CN{t s:Tr}:∀ {ts:List Tr},t∈ts->s∈t.subs->s∈Tr.br ts
 |x :: ts,h,hs=>by
  simp only[Tr.br,aep];rcases adY.1 h with rfl |h
  ·exact .inl hs
  ·exact .inr (CN h hs)
def gAt(p:Po)(vl:Nd->Vl)(y:Int):Vl:=match p.nodes.l[y.toNat]? with
 |some n=>vl n
 |none=>.num 0
variable{fp:List Blk}{fm:Nat}(hm:fp.length=fm)
include hm
mutual
theorem f134(hlen:p.nodes.l.length<=1000)(hkl:∀ n∈p.nodes.l,n.kids.l.length<=1000)(o:Heap)(vl:Nd->Vl)(N:Nat)(hN:N=p.nodes.l.length):∀ (t:Tr),Pol.IsT p.nodes.l t->WF t true->(∀ s∈t.subs,H6 p l xs (o.length,fm) N vl s) ->
  ∀ (T:List (List Blk)) (B:List Bool),B.length=N->(mu K).fn 134 [.ptr (o.length,fm+1) 0,iV (t.i:Int)] (T++FE fp fm p l xs B o)=some (.val (.bool (truth vl t)) (T++FE fp fm p l xs (mark vl t B) o))
 |.nd i n ks,hT,hW,hA,T,B,hB=>by
  have jx:=hA _ (LF _);obtain⟨hn,hk,hks⟩:=hT;obtain⟨hf,hw⟩:=hW;obtain⟨k0,k12,k8,kH,_,hlo,hhi⟩:=eJ hf;have k8:n.k<=8:=by simpa using k8
  have hi:i<B.length:=by rw[hB,hN];exact (adW.1 hn).1
  have lk:n.kids.l.length=ks.length:=by rw[hk];simp
  have hkn:=hkl n (aee hn);have ne:(o.length=T.length+1+(o.length+1))=False:=by simp;omega
  have ne1:(o.length=T.length+(o.length+1)+1)=False:=by simp;omega
  have ne2:(o.length=T.length+(o.length+1))=False:=by simp;omega
  have hix:=λ(k:IntKind)=>aG (av:=Nd.av) (sz:=6) (s:=p.nodes) (k:=k) (j:=(i:Int)) (x:=n) (by omega) (by simpa using hn) rfl
  have q3:=ay _ dK p.nodes;have q5:=ay _ bJ n.kids;obtain⟨k,hkk⟩:∃ k:Nat,n.k=(k:Int):=⟨n.k.toNat,by omega⟩
  have hsub:∀ x∈ks,∀ s∈x.subs,s∈(Tr.nd i n ks).subs:=λx hx s hs=>by
   simp only[Tr.subs,adY];exact .inr (CN hx hs)
  have step:=LD hm (p:=p) (l:=l) (xs:=xs) o T i n hn k hkk (by omega) B;have hda:∀ T:List (List Blk),hget (T++FE fp fm p l xs B o) (o.length,fm+1)=some (.box 221 false (zh p l xs (o.length,fm) N)):=λT=>by
   rw[bf,hB,HZ hm]
  have hdl:∀ T:List (List Blk),o.length<(T++FE fp fm p l xs B o).length:=λT=>by simp;omega
  have inner:2<=n.k->n.k<=5->∀ T:List (List Blk),(mu K).fn 246 [.ptr (o.length,fm+1) 0,iV (i:Int)] (T++FE fp fm p l xs B o)=some (.val (iV (cT vl ks:Int)) (T++FE fp fm p l xs (marks vl ks B) o)):=λc1 c2 T=>
   f246 hm o i n hn vl ks hk hkn N (Tb hlen hkl o vl N hN ks hks (by simpa[c2]using hw) (λx hx s hs=>hA s (hsub x hx s hs))) T B hB
  have hmk:=qM vl ks B;simp only[Tr.i,mark];obtain rfl |rfl |rfl |rfl |rfl |rfl |rfl |rfl |rfl:k=0∨k=1∨k=2∨k=3∨k=4∨k=5∨k=6∨k=7∨k=8:=by omega
  ·have ht:truth vl (.nd i n ks)=true:=by simp[truth,hkk]
   rw[if_neg (by omega),ht];exact step B rfl hi true (by rw[aB (KX _ _ _) ZA rfl (by simp[Ub])];simp[Ub,KL,aa])
  ·have ht:truth vl (.nd i n ks)=false:=by simp[truth,hkk]
   rw[if_neg (by omega),ht];exact step B rfl hi false (by rw[aB (KX _ _ _) ZB rfl (by simp[Uc])];simp[Uc,KL,aa])
  ·have ht:truth vl (.nd i n ks)=decide (cT vl ks=0):=by simp[truth,hkk]
   have h2:=inner (by omega) (by omega) ([] :: [] :: T);simp only[ad4]at h2;rw[if_pos (by omega),ht];refine step (marks vl ks B) hmk hi _ ?_;rw[aB (KX _ _ _) ZC rfl (by simp[QJ])];generalize cT vl ks=z at *
   simp only[FE]at h2 ⊢;by_cases hz:z=0
   ·subst hz;simp[QJ,KL,aa,h2]
   ·simp[QJ,KL,aa,h2,hz]
  ·have ht:truth vl (.nd i n ks)=decide (cT vl ks=ks.length):=by simp[truth,hkk]
   have h2:=inner (by omega) (by omega) ([] :: [] :: T);simp only[ad4]at h2;rw[if_pos (by omega),ht];refine step (marks vl ks B) hmk hi _ ?_;rw[aB (KX _ _ _) ZE rfl (by simp[QK])];generalize cT vl ks=z at *
   simp only[FE]at h2 ⊢;by_cases hz:z=ks.length
   ·have d:(z=ks.length)=True:=by simp[hz]
    have d2:((z:Int)=(ks.length:Int))=True:=by simp;omega
    simp[QK,KL,aa,h2,hix,lk,q3,q5,ne,ne1,ne2,bf,LC hm,HZ hm,d,d2]
   ·have d2:((z:Int)=(ks.length:Int))=False:=by simp;omega
    simp[QK,KL,aa,h2,hix,lk,q3,q5,ne,ne1,ne2,bf,LC hm,HZ hm,hz,d2]
  ·have ht:truth vl (.nd i n ks)=decide (0<cT vl ks):=by simp[truth,hkk]
   have h2:=inner (by omega) (by omega) ([] :: [] :: T);simp only[ad4]at h2;rw[if_pos (by omega),ht];refine step (marks vl ks B) hmk hi _ ?_;rw[aB (KX _ _ _) ZF rfl (by simp[QL])];generalize cT vl ks=z at *
   simp only[FE]at h2 ⊢;by_cases hz:0<z
   ·have d:(0<z)=True:=by simp[hz]
    have d2:(0<(z:Int))=True:=by simp;omega
    simp[QL,KL,aa,h2,d,d2]
   ·have hz:z=0:=by omega
    subst hz;simp[QL,KL,aa,h2]
  ·have ht:truth vl (.nd i n ks)=decide (n.num<=(cT vl ks:Int)):=by simp[truth,hkk]
   have h2:=inner (by omega) (by omega) ([] :: [] :: T);simp only[ad4]at h2;rw[if_pos (by omega),ht];refine step (marks vl ks B) hmk hi _ ?_;rw[aB (KX _ _ _) ZG rfl (by simp[QM])];generalize cT vl ks=z at *
   simp only[FE]at h2 ⊢;by_cases hz:n.num<=(z:Int)
   ·have d:(n.num<=(z:Int))=True:=by simp[hz]
    simp[QM,KL,aa,h2,hix,lk,q3,q5,ne,ne1,ne2,bf,LC hm,HZ hm,d]
   ·have d:(n.num<=(z:Int))=False:=by simp;omega
    simp[QM,KL,aa,h2,hix,lk,q3,q5,ne,ne1,ne2,bf,LC hm,HZ hm,d]
  ·have hl2:ks.length=2:=by rw[lk]at kH;simpa[cQ,hkk]using kH
   obtain⟨a,b,rfl⟩:=Np hl2;obtain⟨hh,hc⟩:=jx.cmp hkk a b rfl;have ht:truth vl (.nd i n [a,b])=sgB n.num (cI (vl a.n) (vl b.n)):=by
    have hc':sgB n.num (cI (vl a.n) (vl b.n))=dx n.num (vl a.n) (vl b.n):=hc;rw[hc'];simp[truth,hkk,bG]
   rw[if_neg (by omega),ht];refine step B rfl hi _ ?_;have:=f225 (p:=p) (l:=l) (xs:=xs) (o:=(o.length,fm)) (m:=N) i n hn (a.i:Int) (b.i:Int) (by rw[hk];rfl) hh (jx.ev (by simp[Tr.n,hkk]) a (by simp[Tr.ks])) (jx.ev (by simp[Tr.n,hkk]) b (by simp[Tr.ks]))
    (o.length,fm+1) ([] :: T++FE fp fm p l xs B o) (hda ([] :: T)) (hdl ([] :: T))
   exact this
  ·have hl2:ks.length=3:=by rw[lk]at kH;simpa[cQ,hkk]using kH
   obtain⟨a,b,c,rfl⟩:=Fx hl2;obtain⟨hc,hc2⟩:=jx.btw hkk a b c rfl;have ht:truth vl (.nd i n [a,b,c])=(sgB 5 (cI (vl a.n) (vl b.n))&&sgB 3 (cI (vl a.n) (vl c.n))):=by
    rw[hc,hc2];simp[truth,hkk,bG]
   rw[if_neg (by omega),ht];refine step B rfl hi _ ?_;exact f226 (p:=p) (l:=l) (xs:=xs) (o:=(o.length,fm)) (m:=N) i n hn (a.i:Int) (b.i:Int) (c.i:Int) (by rw[hk];rfl) (jx.ev (by simp[Tr.n,hkk]) a (by simp[Tr.ks])) (jx.ev (by simp[Tr.n,hkk]) b (by simp[Tr.ks])) (jx.ev (by simp[Tr.n,hkk]) c (by simp[Tr.ks]))
    (o.length,fm+1) ([] :: T++FE fp fm p l xs B o) (hda ([] :: T)) (hdl ([] :: T))
  ·have hl2:2<=ks.length:=by rw[lk]at kH;simpa[cQ,hkk]using kH
   obtain⟨a,r,rfl⟩:∃ a r,ks=a :: r:=by cases ks with
    |nil=>simp at hl2
    |cons a r=>exact⟨a,r,rfl⟩
   have hc:=jx.inn hkk a r rfl;have hev:=jx.ev (by simp[Tr.n,hkk]);have hg:∀ b∈a :: r,gAt p vl (b.i:Int)=vl b.n:=λb hb=>by
    have:=(pI.1 hks) b hb;cases b with
    |nd j m js=>
     unfold gAt;simp only[Tr.i,aev,this.1,Tr.n]
   have ht:truth vl (.nd i n (a :: r))=(r.map λb=>(b.i:Int)).any (λy=>sgB 0 (cI (vl a.n) (gAt p vl y))):=by
    rw[List.any_map];simp only[truth,hkk];simp only[List.drop_succ_cons,List.drop_zero,bG,ae0];simp;rw[aem,afe,afe];constructor
    ·rintro⟨b,hb,h⟩;refine⟨b,hb,?_⟩;simp only[Function.comp];rw[hg b (by simp[hb]),hc b hb];exact h
    ·rintro⟨b,hb,h⟩;refine⟨b,hb,?_⟩;simp only[Function.comp]at h;rw[hg b (by simp[hb]),hc b hb]at h;exact h
   rw[if_neg (by omega),ht];refine step B rfl hi _ ?_;exact f227 (p:=p) (l:=l) (xs:=xs) (o:=(o.length,fm)) (m:=N) i n hn (a.i:Int) (r.map λb=>(b.i:Int)) (by rw[hk];rfl) hkn (gAt p vl) (hev a (by simp[Tr.ks])) (λy hy=>by
     obtain⟨b,hb,rfl⟩:=aeg.1 hy;rw[hg b (by simp[hb])];exact hev b (by simp[Tr.ks,hb]))
    (o.length,fm+1) ([] :: T++FE fp fm p l xs B o) (hda ([] :: T)) (hdl ([] :: T))
theorem Tb(hlen:p.nodes.l.length<=1000)(hkl:∀ n∈p.nodes.l,n.kids.l.length<=1000)(o:Heap)(vl:Nd->Vl)(N:Nat)(hN:N=p.nodes.l.length):∀ (ts:List Tr),kY p.nodes.l ts->WFs ts true->(∀ x∈ts,∀ s∈x.subs,H6 p l xs (o.length,fm) N vl s) ->
  ∀ x∈ts,∀ (T:List (List Blk)) (B:List Bool),B.length=N->(mu K).fn 134 [.ptr (o.length,fm+1) 0,iV (x.i:Int)] (T++FE fp fm p l xs B o)=some (.val (.bool (truth vl x)) (T++FE fp fm p l xs (mark vl x B) o))
 | [],_,_,_,x,hx,_,_,_=>by simp at hx
 |t :: ts,hT,hW,hA,x,hx,T,B,hB=>by
  rcases adY.1 hx with e |hx
  ·rw[e];exact f134 hlen hkl o vl N hN t hT.1 hW.1 (hA t (by simp)) T B hB
  ·exact Tb hlen hkl o vl N hN ts hT.2 hW.2 (λy hy=>hA y (by simp[hy])) x hx T B hB
end
end
end Go.Ab.Pn
/-
  The meaning of a policy: the values of a policy that fits.
-/
namespace Go.Ab.Pn
open Go.Ab.Pol
set_option maxRecDepth 100000
set_option maxHeartbeats 2000000
theorem Ri{s:Sc}(h:ju s=0){f:Pol.Fd}(hf:f∈s.fields.l):f.kind=0∨f.kind=1:=by
 have:=vL h f hf;unfold dh at this;by_cases k0:f.kind=0
 ·exact .inl k0
 by_cases k1:f.kind=1
 ·exact .inr k1
 ·simp[k0,k1]at this
theorem kD{p:Po}{l:List Sc}{nm attr:Bs}{u k:Nat}{f:Pol.Fd}(h:findF p.uses.l l ⟨nm,attr⟩=some (u,k,f)) :
  ∃ x s,nP p.uses.l nm=some u∧p.uses.l[u]?=some x∧scN l x.sc=some s∧scU p l u=s∧fdI s attr=some k∧s.fields.l[k]?=some f:=by
 unfold findF at h;simp only at h;split at h
 ·cases h
 rename_i u' e1;split at h
 ·cases h
 rename_i x e2;split at h
 ·cases h
 rename_i s e3;split at h
 ·cases h
 rename_i k' e4;split at h
 ·cases h
 rename_i f' e5;simp only[fS,ad2]at h;obtain⟨rfl,rfl,rfl⟩:=h;exact⟨x,s,e1,e2,e3,by unfold scU;rw[e2];simp[e3],e4,e5⟩
theorem Jh{p:Po}{l:List Sc}{xs:List (Sl Int)}(h:oX p l xs=0):xs.length=p.uses.l.length∧xs.zipIdx.all (mG p l)=true∧xs.zipIdx.all (rowOk p l)=true:=by
 unfold oX at h;split at h
 ·simp at h
 rename_i a;split at h
 ·simp at h
 rename_i b;split at h
 ·simp at h
 rename_i c;exact⟨by simpa using a,by simpa using b,by simpa using c⟩
theorem DW{p:Po}{l:List Sc}{xs:List (Sl Int)}(h:oX p l xs=0){u:Nat}(hu:u<p.uses.l.length){k:Nat}{f:Pol.Fd}(hf:(scU p l u).fields.l[k]?=some f) :
  ∃ r x,xs[u]?=some r∧r.l[k]?=some x∧loF f<=x∧x<=hiF f:=by
 obtain⟨h1,h2,h3⟩:=Jh h;have hu':u<xs.length:=by omega
 have hr:xs[u]?=some xs[u]:=aea hu';generalize xs[u]=r at hr;have hm:(r,u)∈xs.zipIdx:=afU.2 hr;have a:=aek.1 h2 _ hm;have b:=aek.1 h3 _ hm;simp only[mG,decide_eq_true_eq]at a;have hk:k<r.l.length:=by rw[a];exact (adW.1 hf).1
 have hx:r.l[k]?=some r.l[k]:=aea hk;generalize r.l[k]=x at hx;have hm2:(x,k)∈r.l.zipIdx:=afU.2 hx;have c:=aek.1 b _ hm2;unfold inR at c;simp only[hf,ad8,decide_eq_true_eq]at c;exact⟨r,x,hr,hx,c.1,c.2⟩
theorem Aj{p:Po}{l:List Sc}{xs:List (Sl Int)}(h:oX p l xs=0){n:Nd}{u k:Nat}{f:Pol.Fd}(hu:u<p.uses.l.length)(hk:fdI (scU p l u) n.attr=some k)(hf:(scU p l u).fields.l[k]?=some f) :
  ∃ x:Int,loF f<=x∧x<=hiF f∧jM p l xs n u=if f.kind=1 then .word ((f.words.l[x.toNat]?).getD []) else .num x:=by
 obtain⟨r,x,h1,h2,h3,h4⟩:=DW h hu hf;refine⟨x,h3,h4,?_⟩;unfold jM;simp only[hk,hf,h1,h2]
theorem DX{f:Pol.Fd}(hk:f.kind=1){x:Int}(h1:loF f<=x)(h2:x<=hiF f):0<=x∧∃ w,f.words.l[x.toNat]?=some w∧w∈f.words.l:=by
 unfold loF at h1;unfold hiF at h2;rw[if_pos hk]at h1 h2;have hlt:x.toNat<f.words.l.length:=by omega
 exact⟨h1,f.words.l[x.toNat],aea hlt,afi hlt⟩
theorem uf{p:Po}{l:List Sc}{xs:List (Sl Int)}(hs:∀ s∈l,ju s=0)(h:oX p l xs=0):lU (ak p.uses.l l) (eD p l xs) where
 num n hn:=by simp[eD,hn]
 word n hn:=by simp[eD,hn]
 same a b ha hb e1 e2:=by
  unfold eD jM;rw[if_neg (by omega),if_neg (by omega),if_neg (by omega),if_neg (by omega),e1,e2]
 vE n hn h0:=by
  unfold eD;rw[if_neg (by omega),if_neg (by omega)];unfold ak at h0 ⊢;cases hf:findF p.uses.l l ⟨n.nm,n.attr⟩ with
  |none=>
   refine⟨0,?_,by simp[zFd],by simp[zFd]⟩;unfold findF at hf;simp only at hf;cases e1:nP p.uses.l n.nm with
   |none=>rfl
   |some u=>
    simp only[e1]at hf;simp only;have hu:u<p.uses.l.length:=by
     unfold nP at e1;exact (aeZ.1 e1).1
    rw[aea hu]at hf;simp only at hf;have hS:scU p l u=(scN l p.uses.l[u].sc).getD zSc:=by unfold scU;rw[aea hu]
    cases e2:scN l p.uses.l[u].sc with
    |none=>
     rw[e2]at hS;unfold jM;rw[hS];simp[zSc,fdI]
    |some s=>
     rw[e2]at hS hf;simp only at hf;unfold jM;rw[hS];simp only[aeE];cases e3:fdI s n.attr with
     |none=>rfl
     |some k=>
      rw[e3]at hf;simp only at hf;have hk:k<s.fields.l.length:=by
       unfold fdI at e3;exact (aeZ.1 e3).1
      rw[aea hk]at hf;cases hf
  |some q=>
   obtain⟨u,k,f⟩:=q;obtain⟨x,s,a1,a2,a3,a4,a5,a6⟩:=kD hf;rw[hf]at h0;simp only at h0 ⊢;have hu:u<p.uses.l.length:=(adW.1 a2).1;obtain⟨y,b1,b2,b3⟩:=Aj (n:=n) h hu (by rw[a4];exact a5) (by rw[a4];exact a6);rw[a1];simp only;rw[b3,if_neg (by omega)];unfold loF at b1;unfold hiF at b2;rw[if_neg (by omega)]at b1 b2;exact⟨y,rfl,b1,b2⟩
 Al n hn h0:=by
  unfold eD;rw[if_neg (by omega),if_neg (by omega)];unfold ak at h0 ⊢;cases hf:findF p.uses.l l ⟨n.nm,n.attr⟩ with
  |none=>rw[hf]at h0;simp[zFd]at h0
  |some q=>
   obtain⟨u,k,f⟩:=q;obtain⟨x,s,a1,a2,a3,a4,a5,a6⟩:=kD hf;rw[hf]at h0;simp only at h0 ⊢;have hu:u<p.uses.l.length:=(adW.1 a2).1;obtain⟨y,b1,b2,b3⟩:=Aj (n:=n) h hu (by rw[a4];exact a5) (by rw[a4];exact a6);have hk:f.kind=1:=(Ri (hs s (oY a3).1) (aee a6)).resolve_left h0;obtain⟨_,w,c1,c2⟩:=DX hk b1 b2;rw[a1];simp only;rw[b3,if_pos hk,c1];exact⟨w,rfl,c2⟩
theorem Nq{fd:Nd->Pol.Fd}{vl:Nd->Vl}(V:lU fd vl){how:Int}{a b:Nd}(hf:Fits fd how a b):sgB how (cI (vl a) (vl b))=dx how (vl a) (vl b):=by
 obtain⟨hh,ka,kb,hf⟩:=hf;rcases hf with⟨fa,fb⟩ |⟨hw,fa,fb,_⟩
 ·obtain⟨x,hx⟩:∃ x,vl a=.num x:=by
   rcases fa with⟨q1,q2⟩ |q
   ·obtain⟨x,hx,_⟩:=V.vE a q1 q2;exact⟨x,hx⟩
   ·exact⟨_,V.num a q⟩
  obtain⟨y,hy⟩:∃ x,vl b=.num x:=by
   rcases fb with⟨q1,q2⟩ |q
   ·obtain⟨x,hx,_⟩:=V.vE b q1 q2;exact⟨x,hx⟩
   ·exact⟨_,V.num b q⟩
  rw[hx,hy];exact Rh hh x y
 ·obtain⟨x,hx⟩:∃ x,vl a=.word x:=by
   rcases fa with⟨q1,q2⟩ |q
   ·obtain⟨x,hx,_⟩:=V.Al a q1 q2;exact⟨x,hx⟩
   ·exact⟨_,V.word a q⟩
  obtain⟨y,hy⟩:∃ x,vl b=.word x:=by
   rcases fb with⟨q1,q2⟩ |q
   ·obtain⟨x,hx,_⟩:=V.Al b q1 q2;exact⟨x,hx⟩
   ·exact⟨_,V.word b q⟩
  rw[hx,hy];exact Nn hw x y
end Go.Ab.Pn
/-
  The meaning of a policy: the conditions of a policy that fits can be told.
-/
namespace Go.Ab.Pn
open Go.Ab.Pol
set_option maxRecDepth 100000
set_option maxHeartbeats 2000000
mutual
theorem MW:∀ {t:Tr} {c:Bool},WF t c->∀ s∈t.subs,∃ c',WF s c'
 |.nd i n ks,c,h,s,hs=>by
  simp only[Tr.subs,adY]at hs;rcases hs with rfl |hs
  ·exact⟨c,h⟩
  ·exact Nr h.2 s hs
theorem Nr:∀ {ts:List Tr} {c:Bool},WFs ts c->∀ s∈Tr.br ts,∃ c',WF s c'
 | [],c,h,s,hs=>by simp[Tr.br]at hs
 |t :: ts,c,h,s,hs=>by
  simp only[Tr.br,aep]at hs;rcases hs with hs |hs
  ·exact MW h.1 s hs
  ·exact Nr h.2 s hs
end
theorem xu{v:VT}{l:List VT}(h:oM (v :: l)=0):∀ x∈l,aT v x=0:=gP h
theorem Rj{p:Po}(h:(p.uses.l.map Us.al).Nodup){nm:Bs}{u v:Nat}{x:Us}(hu:nP p.uses.l nm=some u)(hv:p.uses.l[v]?=some x)(hx:x.al=nm):v=u:=by
 unfold nP at hu;obtain⟨h1,h2,_⟩:=aeZ.1 hu;have h2:p.uses.l[u].al=nm:=by simpa using h2
 obtain⟨g1,g2⟩:=adW.1 hv;have e:(p.uses.l.map Us.al)[v]'(by simpa using g1)=(p.uses.l.map Us.al)[u]'(by simpa using h1):=by
  simp only[List.getElem_map];rw[g2,h2,hx]
 have hp:=List.pairwise_iff_getElem.1 h;rcases afB v u with q |q |q
 ·exact absurd e (hp v u (by simpa using g1) (by simpa using h1) q)
 ·exact q
 ·exact absurd e.symm (hp u v (by simpa using h1) (by simpa using g1) q)
theorem aaj{p:Po}(hp:p.uses.l.length<=1000)(hal:(p.uses.l.map Us.al).Nodup){l:Sl Sc}(hl:okL l){xs:Sl (Sl Int)}(hs:∀ s∈l.l,ju s=0)(h:oX p l.l xs.l=0){i:Nat}{n:Nd}(hn:p.nodes.l[i]?=some n)
  (hv:(cg p.uses.l l.l n).isSome=true) (o:Loc) (N:Nat):Ev p l xs o N (i:Int) (eD p l.l xs.l n):=by
 have key:n.k≠10->n.k≠11->∃ q,findF p.uses.l l.l ⟨n.nm,n.attr⟩=some q:=λh1 h2=>by
  unfold cg at hv;rw[if_neg h1,if_neg h2]at hv;cases e:findF p.uses.l l.l ⟨n.nm,n.attr⟩ with
  |none=>rw[e]at hv;cases hv
  |some q=>exact⟨q,rfl⟩
 intro a hh ha hlt;refine f247 p hp l hl xs o N i n hn (λh1 h2=>?_) (λh1 h2 u x hu hx=>?_) a hh ha hlt
 ·obtain⟨⟨u,k,f⟩,e⟩:=key h1 h2;obtain⟨x,s,a1,_⟩:=kD e;rw[a1];rfl
 ·obtain⟨⟨u',k,f⟩,e⟩:=key h1 h2;obtain⟨x',s,a1,a2,a3,a4,a5,a6⟩:=kD e;have:=Rj hal a1 hu hx;subst this;have hlt':u<p.uses.l.length:=(adW.1 a2).1;obtain⟨r,y,b1,b2,b3,b4⟩:=DW h hlt' (by rw[a4];exact a6);exact⟨⟨k,f,r,y,by rw[a4];exact a5,by rw[a4];exact a6,b1,b2,λhk=>by
   obtain⟨c0,w,c1,_⟩:=DX hk b3 b4;exact⟨c0,w,c1⟩⟩⟩
theorem Rk{f:Nd->Option VT}{ks:List Tr}{vs:List VT}(h:iA f ks=.inr vs):∀ q∈ks,(f q.n).isSome=true:=λq hq=>by
 have:=iX h;have hm:f q.n∈ks.map (λt=>f t.n):=aeg.2 ⟨q,hq,rfl⟩;rw[this]at hm;obtain⟨v,_,e⟩:=aeg.1 hm;rw[<-e];rfl
theorem nQ{f:Nd->Option VT}{i:Nat}{n:Nd}{ks:List Tr}(hk:n.k=6∨n.k=7∨n.k=8)(h:(cZ f (.nd i n ks)).2=0):∃ vs,iA f ks=.inr vs∧dI n vs=0:=by
 simp only[cZ]at h;rw[if_pos hk]at h;cases e:iA f ks with
 |inl k=>rw[e]at h;simp at h
 |inr vs=>
  rw[e]at h;simp only at h;by_cases c:dI n vs=0
  ·exact⟨vs,rfl,c⟩
  ·rw[if_neg c]at h;exact absurd h c
theorem Rm{p:Po}{t:Tr}(g:Pol.Good p t){l:Sl Sc}(hl:okL l)(hf:Fy p l.l t){xs:Sl (Sl Int)}(h:oX p l.l xs.l=0)(o:Loc)(N:Nat):∀ s∈t.subs,H6 p l xs o N (eD p l.l xs.l) s:=by
 intro s hs;have hr:=kI hf.ready;have hu:p.uses.l.length<=1000:=by have:=g.sizes;omega
 have V:=uf (p:=p) hr.sch h;have hT:=jt g.isT s hs;obtain⟨c,hW⟩:=MW g.wf s hs;have hC:=hf.conds s hs;obtain⟨i,n,ks⟩:=s;obtain⟨hn,hk,hks⟩:=hT;obtain⟨hfm,hw⟩:=hW;obtain⟨k0,k12,k8,kH,_,hlo,hhi⟩:=eJ hfm;have kv:6<=n.k->n.k<=8->∀ q∈ks,q.n.k=9∨q.n.k=10∨q.n.k=11:=λh1 h2 q hq=>by
  have:decide (n.k<=5)=false:=by simp;omega
  rw[this]at hw;exact Hz (Jr.1 hw q hq)
 have two:∀ how,How how->∀ a∈ks,∀ b∈ks,6<=n.k->n.k<=8->∀ x y,cg p.uses.l l.l a.n=some x->cg p.uses.l l.l b.n=some y->aT x y=0->((how=0∨how=1)∨(isNum x=true∧isNum y=true)) ->
   sgB how (cI (eD p l.l xs.l a.n) (eD p l.l xs.l b.n))=dx how (eD p l.l xs.l a.n) (eD p l.l xs.l b.n):=λhow hh a ha b hb h1 h2 x y hx hy hag hn=>
  Nq V (Pol.DM hh (kv h1 h2 a ha) (kv h1 h2 b hb) hx hy hag hn)
 constructor
 ·intro h6 q hq;simp only[Tr.n,Tr.ks]at h6 hq;by_cases h9:n.k<=8
  ·obtain⟨vs,e1,_⟩:=nQ (show n.k=6∨n.k=7∨n.k=8 by omega) hC;have hq1:=(pI.1 hks) q hq;have hq2:p.nodes.l[q.i]?=some q.n:=by cases q;exact hq1.1
   exact aaj hu g.aliases hl hr.sch h hq2 (Rk e1 q hq) o N
  ·exfalso;have:n.k=9∨n.k=10∨n.k=11:=by omega
   have h0:n.kids.l.length=0:=by
    rcases this with q |q |q<;>simpa[cQ,q]using kH
   rw[hk]at h0;simp at h0;rw[h0]at hq;simp at hq
 ·intro h6 a b hab;simp only[Tr.n,Tr.ks]at h6 hab ⊢;subst hab;obtain⟨vs,e1,e2⟩:=nQ (.inl h6) hC;have adO:0<=n.num∧n.num<=5:=by simp[EZ,xe,h6]at hlo hhi;omega
  have hh:How n.num:=by unfold How;omega
  have e3:=iX e1;obtain⟨x,y,rfl⟩:=Np (l:=vs) (by have:=congrArg List.length e3;simpa using this.symm)
  ·simp only[Io,aei,aen,and_true]at e3;unfold dI at e2;rw[if_pos h6]at e2;have hag:(aT x y=0)∧((n.num=0∨n.num=1)∨(isNum x=true∧isNum y=true)):=by
    split at e2
    ·simp at e2
    ·rename_i hc;refine⟨xu e2 y (by simp),?_⟩;by_cases q0:n.num=0
     ·exact .inl (.inl q0)
     by_cases q1:n.num=1
     ·exact .inl (.inr q1)
     ·right;simp[q0,q1]at hc;exact hc
   exact⟨hh,two n.num hh a (by simp) b (by simp) (by omega) (by omega) x y e3.1 e3.2 hag.1 hag.2⟩
 ·intro h7 a b c hab;simp only[Tr.n,Tr.ks]at h7 hab ⊢;subst hab;obtain⟨vs,e1,e2⟩:=nQ (.inr (.inl h7)) hC;have e3:=iX e1;obtain⟨x,y,z,rfl⟩:=Fx (l:=vs) (by have:=congrArg List.length e3;simpa using this.symm)
  ·simp only[Io,aei,aen,and_true]at e3;unfold dI at e2;rw[if_neg (by omega),if_pos h7]at e2;have iq:isNum x=true∧isNum y=true∧isNum z=true:=by
    split at e2
    ·simp at e2
    ·rename_i hc;simpa using hc
   have hnn:∀ q r,isNum q=true->isNum r=true->aT q r=0:=λq r hq hr=>by
    cases q<;>cases r<;>simp[isNum]at hq hr<;>rfl
   exact⟨two 5 (by simp[How]) a (by simp) b (by simp) (by omega) (by omega) x y e3.1 e3.2.1 (hnn _ _ iq.1 iq.2.1) (.inr ⟨iq.1,iq.2.1⟩),
    two 3 (by simp[How]) a (by simp) c (by simp) (by omega) (by omega) x z e3.1 e3.2.2 (hnn _ _ iq.1 iq.2.2) (.inr ⟨iq.1,iq.2.2⟩)⟩
 ·intro h8 a r hab b hb;simp only[Tr.n,Tr.ks]at h8 hab ⊢;subst hab;obtain⟨vs,e1,e2⟩:=nQ (.inr (.inr h8)) hC;have e3:=iX e1
  match vs,e3 with
  |x :: ys,e3=>
   simp only[Io,aen]at e3;unfold dI at e2;rw[if_neg (by omega),if_neg (by omega)]at e2;have hm:cg p.uses.l l.l b.n∈r.map (λt=>cg p.uses.l l.l t.n):=aeg.2 ⟨b,hb,rfl⟩;rw[e3.2]at hm;obtain⟨y,hy,ey⟩:=aeg.1 hm;exact two 0 (by simp[How]) a (by simp) b (by simp[hb]) (by omega) (by omega) x y e3.1 ey.symm (xu e2 y hy) (.inl (.inl rfl))
end Go.Ab.Pn
/-
  The meaning of a policy: ac0 and Holds.
-/
namespace Go.Ab.Pn
open Go.Ab.Pol
set_option maxRecDepth 100000
set_option maxHeartbeats 4000000
theorem aak(p:Po)(hp:Sz p)(l:Sl Sc)(hl:okL l)(t:Tr)(ht:chk p=0->Pol.Good p t)(xs:Sl (Sl Int))(h0:(fB p l.l t).2≠0)(h:Heap) :
  (mu K).fn 78 [p.av,l.avS Sc.av,jJ xs] h=some (.val (.tup [.aj,iV (fB p l.l t).2]) h):=by
 have k38:=λh=>f47 p hp l hl t ht h
 rw[aB (KX _ _ _) TQ rfl (by simp[c78])];simp[c78,KL,aa,k38,h0]
theorem aal(p:Po)(hp:Sz p)(l:Sl Sc)(hl:okL l)(t:Tr)(ht:chk p=0->Pol.Good p t)(xs:Sl (Sl Int))(h0:(fB p l.l t).2=0)(h1:oX p l.l xs.l≠0)(h:Heap) :
  (mu K).fn 78 [p.av,l.avS Sc.av,jJ xs] h=some (.val (.tup [.aj,iV (oX p l.l xs.l)]) h):=by
 have k38:=λh=>f47 p hp l hl t ht h
 have Rn:=λh=>f133 p hp.uses.1 l hl xs h
 rw[aB (KX _ _ _) TQ rfl (by simp[c78])];simp[c78,KL,aa,k38,h0,Rn,h1]
theorem aam(p:Po)(hp:Sz p)(l:Sl Sc)(hl:okL l)(t:Tr)(g:Pol.Good p t)(xs:Sl (Sl Int))(hf:Fy p l.l t)(h1:oX p l.l xs.l=0)(h:Heap) :
  (mu K).fn 78 [p.av,l.avS Sc.av,jJ xs] h=some (.val (.tup [.lst (bB (mark (eD p l.l xs.l) t (List.replicate p.nodes.l.length false))),iV 0]) h):=by
 have k38:=λh=>f47 p hp l hl t (λ_=>g) h
 have Rn:=λh=>f133 p hp.uses.1 l hl xs h
 rw[h1]at Rn;have h0:(fB p l.l t).2=0:=by rw[UF hf]
 rw[h0]at k38;have hn:p.nodes.l.length<=1000:=hp.nodes.1;have Ro:=f134 (fp:=[.box 26 false p.av]) (fm:=1) rfl (p:=p) (l:=l) (xs:=xs) hn (λn hn=>(hp.nodes.2 n hn).2) h (eD p l.l xs.l) p.nodes.l.length rfl t g.isT g.wf (Rm g hl hf h1 (h.length,1) p.nodes.l.length) [] (List.replicate p.nodes.l.length false) (by simp);rw[g.root]at Ro;simp only[aeb]at Ro;have hlen:=AA (eD p l.l xs.l) t (List.replicate p.nodes.l.length false);rw[afw]at hlen;generalize mark (eD p l.l xs.l) t (List.replicate p.nodes.l.length false)=M at *
 have r1:p.nodes.l.length<=room:=by unfold room;omega
 have bp1:=ay _ dR p.uses;have bp2:=ay _ fK p.aA;have bp3:=ay _ dK p.nodes;have hM:M.length=p.nodes.l.length:=hlen;have er:bB (List.replicate p.nodes.l.length false)=List.replicate p.nodes.l.length (.bool false):=by simp[bB]
 simp only[FE,er,afw,hM,zh,Po.cs,ad4,aeb,Nat.reduceAdd]at Ro;rw[aB (KX _ _ _) TQ rfl (by simp[c78])];have tk:(M.map AV.bool).take p.nodes.l.length=M.map AV.bool:=afj (by simp[hM]);simp[-List.map_take,-List.map_replicate,c78,KL,aa,k38,Rn,Ro,r1,bp1,bp2,bp3,hM,tk]
theorem LG(vl:Nd->Vl)(t:Tr)(B:List Bool)(h:t.i<B.length):(mark vl t B)[t.i]?=some (truth vl t):=by
 cases t with
 |nd i n ks=>
  simp only[Tr.i]at h ⊢;unfold mark;rw[List.getElem?_set_self];split
  ·rw[qM];exact h
  ·exact h
def CJ(p:Po)(l:List Sc)(t:Tr)(xs:List (Sl Int)):Int:=if (fB p l t).2≠0 then (fB p l t).2 else oX p l xs
theorem Z7(p:Po)(hp:Sz p)(l:Sl Sc)(hl:okL l)(t:Tr)(ht:chk p=0->Pol.Good p t)(xs:Sl (Sl Int))(h0:CJ p l.l t xs.l≠0)(h:Heap) :
  (mu K).fn 30 [p.av,l.avS Sc.av,jJ xs] h=some (.val (.tup [.bool false,iV (CJ p l.l t xs.l)]) h):=by
 rw[aB (KX _ _ _) Yw rfl (by simp[c30])];unfold CJ at h0 ⊢;by_cases c:(fB p l.l t).2=0
 ·rw[if_neg (by simp[c])]at h0 ⊢;have k53:=λh=>aal p hp l hl t ht xs c h0 h
  simp[c30,KL,aa,k53,h0]
 ·rw[if_pos c]at h0 ⊢;have k53:=λh=>aak p hp l hl t ht xs c h
  simp[c30,KL,aa,k53,c]
theorem Z8(p:Po)(hp:Sz p)(l:Sl Sc)(hl:okL l)(t:Tr)(g:Pol.Good p t)(xs:Sl (Sl Int))(hf:Fy p l.l t)(h1:oX p l.l xs.l=0)(h:Heap) :
  (mu K).fn 30 [p.av,l.avS Sc.av,jJ xs] h=some (.val (.tup [.bool (truth (eD p l.l xs.l) t),iV 0]) h):=by
 have k53:=λh=>aam p hp l hl t g xs hf h1 h
 have hi:t.i<p.nodes.l.length:=by
  have:=g.isT;cases t with
  |nd i n ks=>exact (adW.1 this.1).1
 have hs:=LG (eD p l.l xs.l) t (List.replicate p.nodes.l.length false) (by simpa using hi);generalize mark (eD p l.l xs.l) t (List.replicate p.nodes.l.length false)=M at *
 have hr:=g.root;have hix:=λ(k:IntKind)=>dU (sz:=1) (l:=bB M) (k:=k) (j:=p.root) (v:=.bool (truth (eD p l.l xs.l) t)) (by omega) (by
  rw[<-hr,aev,aeh,hs];rfl) rfl
 rw[aB (KX _ _ _) Yw rfl (by simp[c30])];simp[c30,KL,aa,k53,hix]
end Go.Ab.Pn
