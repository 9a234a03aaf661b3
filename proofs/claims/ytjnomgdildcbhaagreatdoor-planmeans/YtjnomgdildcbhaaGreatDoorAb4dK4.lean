/-
  The attributes of a plan's places.
-/
import Derived.Test.YtjnomgdildcbhaaGreatDoorAb4dP52
import Derived.Test.YtjnomgdildcbhaaGreatDoorAb4dP59
import Derived.Test.YtjnomgdildcbhaaGreatDoorAb4dA
import Derived.Test.YtjnomgdildcbhaaGreatDoorChecked
import Derived.Test.YtjnomgdildcbhaaGreatDoorRows
import Derived.JoinedOf
import Derived.Handed
import Derived.KernelRfl
import Derived.LaidLaws
set_option linter.unusedVariables false
set_option linter.unusedSimpArgs false
set_option linter.unusedSectionVars false
namespace Go.Ab.Pn
open Go.Ab.Pol
set_option maxRecDepth 100000
set_option maxHeartbeats 4000000
def ze(sc:Bs)(k:Nat)(b:Int)(s:Sc):Int:=if s.name=sc∧k<s.fields.l.length then (match s.fields.l[k]? with
 |some f=>f.mn
 |none=>b) else b
theorem E8(sc:Bs)(k:Nat)(s:Sc)(f:Pol.Fd)(hf:s.fields.l[k]?=some f):∀ (l:List Sc) (b:Int),(l.map Sc.name).Nodup->scN l sc=some s->l.foldl (ze sc k) b=f.mn
 | [],b,_,h=>by simp[scN]at h
 |x :: l,b,hd,h=>by
  rw[Io,afq]at hd;unfold scN at h;rw[List.find?_cons]at h;by_cases e:x.name=sc
  ·rw[decide_eq_true e]at h;simp only[fS]at h;subst h;have hk:k<x.fields.l.length:=(adW.1 hf).1;have h1:ze sc k b x=f.mn:=by unfold ze;rw[if_pos ⟨e,hk⟩,hf]
   have h2:∀ (l:List Sc) (b:Int),sc∉l.map Sc.name->l.foldl (ze sc k) b=b:=by
    intro l
    induction l with
    |nil=>intro b _;rfl
    |cons y l ih=>
     intro b hn;simp only[Io,adY,not_or]at hn;have:ze sc k b y=b:=by unfold ze;rw[if_neg λq=>hn.1 q.1.symm]
     rw[ae4,this];exact ih b hn.2
   rw[ae4,h1];exact h2 l _ (by rw[<-e];exact hd.1)
  ·rw[decide_eq_false e]at h;rw[ae4];exact E8 sc k s f hf l _ hd.2 h
section
variable(p:Po)(l:Sl Sc)(xs:Sl (Sl Int))(P:Pl)(h:Heap)
abbrev cAV(p:Po)(l:Sl Sc)(xs:Sl (Sl Int)):AV:=.agg [.str p.name,p.uses.avS Us.av,p.aA.avS Rf.av,p.nodes.avS Nd.av,iV p.root,.str p.scope,iV p.limit,.str p.cD,l.avS Sc.av,jJ xs]
theorem DT:∀ s:Sl Int,(s.avS iV).beq (s.avS iV)=true:=ay _ bJ
theorem MQ(a6 a7:AV)(B:Blk)(pl:AV)(u k:Nat)(hpl:pl=.agg [iV (u:Int),iV ((k:Int)+2)])(x:Us)(hu:p.uses.l[u]?=some x)(hl:l.l.length<=1000)(hk:k<=1000)(b0:Int):∃ env,
  (mu K5).code (.af 4 [2,3,6,7,8,9,10] rK) ⟨[(2,.ptr (h.length,0) 0),(3,.ptr (h.length,1) 0),(6,a6),(7,a7),(8,.ptr (h.length,3) 0),(9,iV b0),(10,iV 0)],[.box 76 false (cAV p l xs),.box 36 false P.av,B,.box 47 false pl] :: h⟩ =
   some (.exit 2,⟨env,[.box 76 false (cAV p l xs),.box 36 false P.av,B,.box 47 false pl] :: h⟩)∧get env 2=.ptr (h.length,0) 0∧get env 3=.ptr (h.length,1) 0∧get env 6=a6∧get env 7=a7∧get env 8=.ptr (h.length,3) 0∧get env 9=iV (l.l.foldl (ze x.sc k) b0):=by
 have q1:=ay _ dR p.uses;have q4:=ay _ fC l;have hiu:=λ(q:IntKind)=>aG (av:=Us.av) (sz:=2) (s:=p.uses) (k:=q) (j:=(u:Int)) (x:=x) (by omega) (by simpa using hu) rfl
 have w0:IntKind.i64.wrap ((k:Int)+2-2)=(k:Int):=by rw[wrap64 (by omega) (by omega)];omega
 have w1k:IntKind.i64.wrap (k:Int)=(k:Int):=wrap64 (by omega) (by omega);subst hpl;have key:=aD (K:=K5) (n:=4) (live:=[2,3,6,7,8,9,10]) (a:=rK) (λ(b:Int) (s:Sc)=>(.inl (ze x.sc k b s):Int ⊕ Unit))
  (λpre b=>⟨[(2,.ptr (h.length,0) 0),(3,.ptr (h.length,1) 0),(6,a6),(7,a7),(8,.ptr (h.length,3) 0),(9,iV b),(10,iV (pre.length:Int))],[.box 76 false (cAV p l xs),.box 36 false P.av,B,.box 47 false (.agg [iV (u:Int),iV ((k:Int)+2)])] :: h⟩) (λ_ _=>True)
  (λb o=>∃ env,o=some (.exit 2,⟨env,[.box 76 false (cAV p l xs),.box 36 false P.av,B,.box 47 false (.agg [iV (u:Int),iV ((k:Int)+2)])] :: h⟩)∧get env 2=.ptr (h.length,0) 0∧get env 3=.ptr (h.length,1) 0∧get env 6=a6∧get env 7=a7∧get env 8=.ptr (h.length,3) 0∧get env 9=iV b) (λ_ o=>False) l.l
  (λpre s r b hl' _=>by
   obtain⟨h1,h2,w1⟩:=aH hl' (by omega);have hix:=λ(q:IntKind)=>aG (av:=Sc.av) (sz:=2) (s:=l) (k:=q) (j:=(pre.length:Int)) (x:=s) (by omega) (by simpa using h2) rfl
   have q5:=ay _ vB s.fields;refine⟨λb' e=>⟨trivial,?_⟩,λr e=>by cases e⟩;injection e with e
   subst e;rw[au];generalize (mu K5).code (.af 4 [2,3,6,7,8,9,10] rK)=F;clear hl';unfold ze;by_cases e1:s.name=x.sc
   ·by_cases e2:k<s.fields.l.length
    ·have e2':((k:Int)<(s.fields.l.length:Int))=True:=eq_true (by omega);have e3:s.fields.l[k]?=some s.fields.l[k]:=aea e2;have hif:=λ(q:IntKind)=>aG (av:=Pol.Fd.av) (sz:=5) (s:=s.fields) (k:=q) (j:=(k:Int)) (x:=s.fields.l[k]) (by omega) (by simp) rfl
     rw[if_pos ⟨e1,e2⟩,e3];simp[rK,KL5,aa,h1,hix,hiu,w0,w1k,w1,e1,e2,e2',hif,q1,q4,q5]
    ·have e2':((k:Int)<(s.fields.l.length:Int))=False:=eq_false (by omega);rw[if_neg λq=>e2 q.2];simp[rK,KL5,aa,h1,hix,hiu,w0,w1k,w1,e1,e2,e2',q1,q4,q5]
   ·rw[if_neg λq=>e1 q.1];simp[rK,KL5,aa,h1,hix,hiu,w1,e1,q1,q4,q5])
  (λu _=>by
   rw[au];generalize (mu K5).code (.af 4 [2,3,6,7,8,9,10] rK)=F;simp[rK]) b0 trivial
 simp only[adZ,ad5]at key;rw[CA]at key;exact key.2
def ivB:List Int->Blk
 | []=>.arr 0 0 false []
 |x :: r=>.arr 3 1 false ((x :: r).map iV)
theorem MR(l:List Int):∃ t z,ivB l=.arr t z false (l.map iV)∧(z=0∨t=3∧z=1):=by
 cases l with
 |nil=>exact⟨0,0,rfl,.inl rfl⟩
 |cons i s=>exact⟨3,1,rfl,.inr ⟨rfl,rfl⟩⟩
theorem MS(l:List Int)(x:Int):ivB (l++[x])=.arr 3 1 false (l.map iV++[iV x]):=by
 cases l with
 |nil=>rfl
 |cons j s=>simp[ivB]
def nL(p:Po)(l:List Sc)(xs:List (Sl Int))(c:Pc):Int:=
 IntKind.i64.wrap ((match xs[c.use.toNat]? with
  |some r=>r.l.getD (c.attr-2).toNat 0
  |none=>0)-(match p.uses.l[c.use.toNat]? with
  |some x=>l.foldl (ze x.sc (c.attr-2).toNat) 0
  |none=>0))
def QX(p:Po)(xs:List (Sl Int))(c:Pc):Prop:=∃ (u k:Nat) (x:Us) (r:Sl Int),c=⟨(u:Int),(k:Int)+2⟩∧p.uses.l[u]?=some x∧xs[u]?=some r∧k<r.l.length∧k<=1000
theorem MT(hp:p.uses.l.length<=1000)(hl:l.l.length<=1000)(hx:xs.l.length<=1000)(hc:P.comm.l.length<=1000)(hr:∀ r∈xs.l,r.l.length<=1000)(hP:∀ c∈P.comm.l,QX p xs.l c):∃ env,
  (mu K5).code (.af 3 [2,3,6,7] zU) ⟨[(2,.ptr (h.length,0) 0),(3,.ptr (h.length,1) 0),(6,.own (h.length,2) 0),(7,iV 0)],[.box 76 false (cAV p l xs),.box 36 false P.av,ivB []] :: h⟩ =
   some (.exit 0,⟨env,[.box 76 false (cAV p l xs),.box 36 false P.av,ivB (P.comm.l.map (nL p l.l xs.l))] :: h⟩)∧get env 2=.ptr (h.length,0) 0∧get env 3=.ptr (h.length,1) 0∧get env 6=.own (h.length,2) P.comm.l.length:=by
 have q1:=ay _ dR p.uses;have q4:=ay _ fC l;have q6:=ay _ DT xs;have key:=aD (K:=K5) (n:=3) (live:=[2,3,6,7]) (a:=zU) (λ(b:List Int) (c:Pc)=>(.inl (b++[nL p l.l xs.l c]):List Int ⊕ Unit))
  (λpre b=>⟨[(2,.ptr (h.length,0) 0),(3,.ptr (h.length,1) 0),(6,.own (h.length,2) b.length),(7,iV (pre.length:Int))],[.box 76 false (cAV p l xs),.box 36 false P.av,ivB b] :: h⟩) (λpre b=>b.length=pre.length)
  (λb o=>∃ env,o=some (.exit 0,⟨env,[.box 76 false (cAV p l xs),.box 36 false P.av,ivB b] :: h⟩)∧get env 2=.ptr (h.length,0) 0∧get env 3=.ptr (h.length,1) 0∧get env 6=.own (h.length,2) b.length) (λ_ o=>False) P.comm.l
  (λpre c r b hl' hb=>by
   obtain⟨h1,h2,w1⟩:=aH hl' (by omega);have hic:=λ(q:IntKind)=>aG (av:=Pc.av) (sz:=2) (s:=P.comm) (k:=q) (j:=(pre.length:Int)) (x:=c) (by omega) (by simpa using h2) rfl
   obtain⟨u,k,x,rw',rfl,hu,hxr,hk,hk2⟩:=hP c (by rw[hl'];simp);refine⟨λb' e=>⟨by injection e with e;subst e;simp[hb],?_⟩,λr e=>by cases e⟩;injection e with e
   subst e;have hu2:u<p.uses.l.length:=(adW.1 hu).1;have hx2:u<xs.l.length:=(adW.1 hxr).1;have hrl:=hr rw' (aee hxr);have hia:=λ(q:IntKind)=>aG (av:=λs:Sl Int=>s.avS iV) (sz:=1) (s:=xs) (k:=q) (j:=(u:Int)) (x:=rw') (by omega) (by simpa using hxr) (qH _ _)
   have hkv:rw'.l[k]?=some rw'.l[k]:=aea hk;have hib:=λ(q:IntKind)=>aG (av:=iV) (sz:=1) (s:=rw') (k:=q) (j:=(k:Int)) (x:=rw'.l[k]) (by omega) (by simp) rfl
   have w0:IntKind.i64.wrap ((k:Int)+2-2)=(k:Int):=by rw[wrap64 (by omega) (by omega)];omega
   have w1k:IntKind.i64.wrap (k:Int)=(k:Int):=wrap64 (by omega) (by omega);have ev:nL p l.l xs.l ⟨(u:Int),(k:Int)+2⟩=IntKind.i64.wrap (rw'.l[k]-l.l.foldl (ze x.sc k) 0):=by
    unfold nL;simp only[aev,hu,hxr];rw[show ((k:Int)+2-2).toNat=k by omega];rw[iO,hkv];rfl
   obtain⟨env,k0,g2,g3,g6,g7,g8,g9⟩:=MQ p l xs P h (.own (h.length,2) b.length) (iV (pre.length:Int)) (ivB b) (.agg [iV (u:Int),iV ((k:Int)+2)]) u k rfl x hu hl hk2 0;rw[ev];generalize l.l.foldl (ze x.sc k) 0=base at *
   have f1:((u:Int)<(p.uses.l.length:Int))=True:=eq_true (by omega);have f2:((u:Int)<(xs.l.length:Int))=True:=eq_true (by omega);have f3:((k:Int)<(rw'.l.length:Int))=True:=eq_true (by omega);have f4:((u:Int)<0)=False:=eq_false (by omega);have f5:((k:Int)<0)=False:=eq_false (by omega);have f6:((p.uses.l.length:Int)<=(u:Int))=False:=eq_false (by omega);have f7:((xs.l.length:Int)<=(u:Int))=False:=eq_false (by omega);have f8:((rw'.l.length:Int)<=(k:Int))=False:=eq_false (by omega);have f9:(p.uses.l.length<=u)=False:=eq_false (by omega);have fa:(xs.l.length<=u)=False:=eq_false (by omega);have fb:(rw'.l.length<=k)=False:=eq_false (by omega);have r1:(b.length+1)*8<=room:=by unfold room;omega
   have r2:b.length+1<=room:=by unfold room;omega
   have q7:=DT rw';have q5:(rw'.avS iV).beq (rw'.avS iV)=true:=ay _ bJ rw';rw[MS];obtain⟨ot,oz,ho,hz2⟩:=MR b;rw[ho]at k0 ⊢;rw[au];generalize (mu K5).code (.af 3 [2,3,6,7] zU)=F;clear hl';simp[zU,KL5,aa,h1,hic,hia,hib,w0,w1k,w1,f1,f2,f3,f4,f5,f6,f7,f8,f9,fa,fb,q1,q4,q5,q6,k0,g2,g3,g6,g7,g8,g9,r1,r2,hz2])
  (λu _=>by
   rw[au];generalize (mu K5).code (.af 3 [2,3,6,7] zU)=F;simp[zU]) [] rfl
 simp only[adZ,ad5]at key;have ei:∀ (L:List Pc) (b:List Int),iter (λ(b:List Int) (c:Pc)=>(.inl (b++[nL p l.l xs.l c]):List Int ⊕ Unit)) b L=.inl (b++L.map (nL p l.l xs.l)):=by
  intro L
  induction L with
  |nil=>intro b;simp[iter]
  |cons c L ih=>intro b;simp only[iter];rw[ih];simp
 rw[ei]at key;obtain⟨env,k1,k2,k3,k4⟩:=key.2;exact⟨env,by simpa using k1,k2,k3,by simpa using k4⟩
theorem f31(hp:p.uses.l.length<=1000)(hl:l.l.length<=1000)(hx:xs.l.length<=1000)(hc:P.comm.l.length<=1000)(hr:∀ r∈xs.l,r.l.length<=1000)(hP:∀ c∈P.comm.l,QX p xs.l c) :
  (mu K5).fn 31 [cAV p l xs,P.av] h=some (.val (.tup [.lst ((P.comm.l.map (nL p l.l xs.l)).map iV),.bool true]) h):=by
 obtain⟨env,k1,k2,k3,k4⟩:=MT p l xs P h hp hl hx hc hr hP;obtain⟨ot,oz,ho,hz2⟩:=MR (P.comm.l.map (nL p l.l xs.l));rw[ho]at k1;simp only[ivB]at k1;rw[aB (KX5 _ _ _) (Ul acu) rfl (by simp[c31])];simp[c31,KL5,aa,k1,k2,k3,k4]
end
end Go.Ab.Pn
/-
  The errors of a normal form that does not fit into a policy.
-/
namespace Go.Ab.Pn
open Go.Ab.Pol
set_option maxRecDepth 100000
set_option maxHeartbeats 4000000
mutual
def WS:Tr->Bool->Prop
 |.nd _ n ks,c=>fE n c=true∧WSs ks (decide (n.k<=5))
def WSs:List Tr->Bool->Prop
 | [],_=>True
 |t :: ts,c=>WS t c∧WSs ts c
end
theorem HF{n:Nd}{c:Bool}(h:fE n c=true):jX n c=0∨jX n c=2:=by
 unfold jX;rw[if_neg (by simp[h])];split
 ·exact .inr rfl
 ·exact .inl rfl
mutual
theorem E9:∀ (t:Tr) {ns:List Nd} {f:Nat} {c:Bool} {seen:List Int},Pol.IsT ns t->WS t c->(seen++ints t.pre).Nodup ->
  vis ns f t.i c seen=(0,seen++ints t.pre)∨(vis ns f t.i c seen).1=2∨(vis ns f t.i c seen).1=7
 |.nd i n ks,ns,f,c,seen,h1,h2,h4=>by
  obtain⟨a1,a2,a3⟩:=h1;obtain⟨b1,b2⟩:=h2;have hlt:=(adW.1 a1).1;have hb:lu ns (i:Int) seen=false:=qG.2 ⟨by omega,by omega,λhm=>by
   simp only[Tr.pre,Io]at h4;have:=(aeQ.1 h4).2.2 _ hm (i:Int) (by simp);exact this rfl⟩
  cases f with
  |zero=>
   right;right;show (vis ns 0 (i:Int) c seen).1=7;rw[vis,hb];rfl
  |succ f=>
   have ih:=CD ks (ns:=ns) (f:=f) (c:=decide (n.k<=5)) (seen:=seen++[(i:Int)]) a3 b2 (by simpa[Tr.pre]using h4);show vis ns (f+1) (i:Int) c seen=_∨(vis ns (f+1) (i:Int) c seen).1=2∨(vis ns (f+1) (i:Int) c seen).1=7;rw[vis,hb];simp only[aef,if_false,aev,a1];rcases HF b1 with e |e
   ·rw[if_pos e,a2];rcases ih with q |q
    ·left;rw[q];simp[Tr.pre]
    ·exact .inr q
   ·rw[if_neg (by omega)];exact .inr (.inl e)
theorem CD:∀ (ts:List Tr) {ns:List Nd} {f:Nat} {c:Bool} {seen:List Int},Pol.kY ns ts->WSs ts c->(seen++ints (Tr.dJ ts)).Nodup ->
  lO (λk s=>vis ns f k c s) (ts.map λt=>(t.i:Int)) seen=(0,seen++ints (Tr.dJ ts))∨(lO (λk s=>vis ns f k c s) (ts.map λt=>(t.i:Int)) seen).1=2∨(lO (λk s=>vis ns f k c s) (ts.map λt=>(t.i:Int)) seen).1=7
 | [],ns,f,c,seen,_,_,_=>by left;simp[lO,Tr.dJ]
 |t :: ts,ns,f,c,seen,h1,h2,h4=>by
  have h4':((seen++ints t.pre)++ints (Tr.dJ ts)).Nodup:=by simpa[Tr.dJ]using h4
  rcases E9 t (f:=f) (seen:=seen) h1.1 h2.1 (aeQ.1 h4').1 with k1 |k1
  ·have k2:=CD ts (f:=f) (seen:=seen++ints t.pre) h1.2 h2.2 h4';simp only[Io,lO,k1,if_true];rcases k2 with k2 |k2
   ·left;rw[k2];simp[Tr.dJ]
   ·exact .inr k2
  ·right;have n0:¬ (vis ns f t.i c seen).1=0:=by omega
   simp only[Io,lO];rw[if_neg n0];exact k1
end
theorem jZ:∀ (vs:List Nd) (b:Nat),Tr.dJ (cF b vs)=List.range' b vs.length
 | [],_=>rfl
 |v :: vs,b=>by simp[cF,Tr.dJ,Tr.pre,jZ vs (b+1),afr]
mutual
theorem qI:∀ (c:Cd) (b:Nat),(aV b c).pre=List.range' b c.size
 |.atom k num vs,b=>by simp[aV,Tr.pre,jZ,Cd.size,afr]
 |.gate need ks,b=>by simp[aV,Tr.pre,kg ks (b+1),Cd.size,afr]
theorem kg:∀ (cs:List Cd) (b:Nat),Tr.dJ (cX b cs)=List.range' b (Cd.sizes cs)
 | [],_=>rfl
 |c :: cs,b=>by
  simp only[cX,Tr.dJ,qI c b,kg cs (b+c.size),Cd.sizes];rw[List.range'_append_1]
end
theorem Le{p:Po}{c:Cd}(w:WS (aV 0 c) true):lA (ij p c)=0∨lA (ij p c)=2∨lA (ij p c)=7:=by
 have h1:Pol.IsT (flat 0 c) (aV 0 c):=vC c 0 (DU _);have hp:=qI c 0;have:=E9 (aV 0 c) (f:=32) (c:=true) (seen:=[]) h1 w (by
  rw[aeb,sS,hp];exact List.nodup_range')
 rw[DV]at this;have e0:lA (ij p c)=if (vis (flat 0 c) 32 ((0:Nat):Int) true []).1=0 then (if (vis (flat 0 c) 32 ((0:Nat):Int) true []).2.length=(flat 0 c).length then 0 else 3) else (vis (flat 0 c) 32 ((0:Nat):Int) true []).1:=rfl
 rw[e0];rcases this with e |e
 ·left;rw[e];simp[hp,kj]
 ·right;rw[if_neg (by omega)];exact e
section
variable{us:List Us}{l:List Sc}{Q:Nd->Prop}{P:Nd->Prop}(hP:∀ v,P v->dS v=true)
theorem HI{v:Nd}(hk:v.k=9∨v.k=10∨v.k=11)(ht:dS v=true):fE (aP v) false=true:=by
 have e:dS (aP v)=dS v:=rfl;unfold fE;rw[e,ht];rcases hk with k |k |k<;>simp[aP,k,cQ]
theorem CE:∀ (vs:List Nd) (b:Nat),(∀ v∈vs,(v.k=9∨v.k=10∨v.k=11)∧dS v=true)->WSs (cF b vs) false
 | [],_,_=>trivial
 |v :: vs,b,h=>⟨⟨HI (h v (by simp)).1 (h v (by simp)).2,trivial⟩,CE vs (b+1) λw hw=>h w (by simp[hw])⟩
theorem CF{k num:Int}{vs:List Nd}(h:AtN us l Q k num vs):((k=6∧vs.length=2)∨(k=7∧vs.length=3))∧∀ v∈vs,v.k=9∨v.k=10∨v.k=11:=by
 obtain⟨_,h⟩:=h;rcases h with⟨rfl,a,b,rfl,w,e⟩ |⟨rfl,rfl,x,lo,hi,rfl,hk,hv,e⟩
 ·refine⟨.inl ⟨rfl,rfl⟩,λv hv=>?_⟩;simp only[adY,aeA,or_false]at hv;rcases hv with rfl |rfl
  ·exact w.2.1
  ·exact w.2.2.1
 ·refine⟨.inr ⟨rfl,rfl⟩,λv hv=>?_⟩;simp only[adY,aeA,or_false]at hv;rcases hv with rfl |rfl |rfl
  ·exact .inl hk
  ·exact .inr (.inl rfl)
  ·exact .inr (.inl rfl)
include hP
mutual
theorem S7:∀ (c:Cd) (b:Nat),NF us l Q c->VsP P c->WS (aV b c) true
 |.atom k num vs,b,h,hv=>by
  obtain⟨h1,h2⟩:=CF h;have hw:WSs (cF (b+1) vs) false:=CE vs _ λv hm=>⟨h2 v hm,hP v (hv.2 v hm)⟩
  rcases h1 with⟨rfl,e⟩ |⟨rfl,e⟩
  ·exact⟨by simp[fE,bC,cQ,dS,upI,e],hw⟩
  ·exact⟨by simp[fE,bC,cQ,dS,upI,e],hw⟩
 |.gate need ks,b,h,hv=>by
  obtain⟨h1,_,_,h4⟩:=h;have hw:=MU ks (b+1) (λc hc=>(cu.1 h4 c hc).1) hv;refine⟨?_,hw⟩;have:1<=ks.length:=by omega
  simp[fE,cV,cQ,dS,bU,this]
theorem MU:∀ (cs:List Cd) (b:Nat),(∀ c∈cs,NF us l Q c)->Fa P cs->WSs (cX b cs) true
 | [],_,_,_=>trivial
 |c :: cs,b,h,hv=>⟨S7 c b (h c (by simp)) hv.1,MU cs (b+c.size) (λd hd=>h d (by simp[hd])) hv.2⟩
end
omit hP
theorem Um{c:Cd}(hP:∀ v,P v->dS v=true)(h:NFp us l Q c)(hv:VsP P c):WS (aV 0 c) true:=by
 rcases h with⟨b,rfl⟩ |h
 ·cases b<;>exact⟨by decide,trivial⟩
 ·exact S7 hP c 0 h hv
variable{p:Po}(hu:∀ v,P v->v.k=9->used p v.nm=true)
include hu
mutual
theorem CG:∀ (c:Cd) (b:Nat),NF us l Q c->VsP P c->∀ n∈flat b c,n.k=9->used p n.nm=true
 |.atom k num vs,b,h,hv,n,hn,hk=>by
  obtain⟨h1,h2⟩:=CF h;simp only[flat,adY,aeg]at hn;rcases hn with rfl |⟨v,hm,rfl⟩
  ·simp only[bC]at hk;omega
  ·exact hu v (hv.2 v hm) hk
 |.gate need ks,b,h,hv,n,hn,hk=>by
  obtain⟨h1,_,_,h4⟩:=h;simp only[flat,adY]at hn;rcases hn with rfl |hn
  ·simp only[cV]at hk;omega
  ·exact Ag ks (b+1) (λc hc=>(cu.1 h4 c hc).1) hv n hn hk
theorem Ag:∀ (cs:List Cd) (b:Nat),(∀ c∈cs,NF us l Q c)->Fa P cs->∀ n∈fJ b cs,n.k=9->used p n.nm=true
 | [],_,_,_,n,hn,_=>by simp[fJ]at hn
 |c :: cs,b,h,hv,n,hn,hk=>by
  simp only[fJ,aep]at hn;rcases hn with hn |hn
  ·exact CG c b (h c (by simp)) hv.1 n hn hk
  ·exact Ag cs (b+c.size) (λd hd=>h d (by simp[hd])) hv.2 n hn hk
end
end
theorem MV{p:Po}{l:List Sc}{t:Tr}(g:Pol.Good p t)(hty:(fB p l t).2=0):Pol.chk (bA p l t)=0∨Pol.chk (bA p l t)=6∨Pol.chk (bA p l t)=2∨Pol.chk (bA p l t)=7:=by
 have hn:NFp p.uses.l l (sU p t) (aS p l t):=mE g hty (tZ g.isT) false
 let P:Nd->Prop:=λv=>dS v=true∧(v.k=9->used p v.nm=true)
 have hv:VsP P (aS p l t):=zu (P:=P) (λn=>⟨by simp[dS,bw],λh=>by simp[bw]at h⟩) t false λs hs=>by
  obtain⟨c',w⟩:=MW g.wf s hs;have hm:=jt g.isT s hs;cases s with
  |nd i n ks=>
   have w1:jX n c'=0:=w.1;refine⟨?_,λh9=>g.refs n (aee hm.1) h9⟩;have:fE n c'=true:=by
    unfold jX at w1;cases e:fE n c'
    ·rw[e]at w1;simp at w1
    ·rfl
   unfold fE at this;simp only[ad8]at this;exact this.2
 have ws:WS (aV 0 (aS p l t)) true:=Um (λv h=>h.1) hn hv;have ht:=Le (p:=p) ws;have hus:∀ n∈flat 0 (aS p l t),n.k=9->used p n.nm=true:=by
  rcases hn with⟨b,e⟩ |h
  ·rw[e];intro n hm hk;cases b<;>simp[cB,flat]at hm<;>subst hm<;>simp[bC]at hk
  ·exact CG (p:=p) (λv h=>h.2) _ 0 h hv
 obtain⟨s1,s2,s3,s4⟩:=g.sizes;have e:bA p l t=ij p (aS p l t):=rfl;rw[e];unfold Pol.chk;split
 ·exact .inr (.inl rfl)
 rw[if_neg (by
  have h:lB p=true:=g.names;have e:lB (ij p (aS p l t))=lB p:=rfl;rw[e,h];decide)]
 rw[if_neg (by
  obtain⟨l1,l2,l3⟩:=g.limit;simp only[ij];rintro (q |q |⟨q1,q2⟩)
  ·omega
  ·omega
  ·exact l3 q1 q2)]
 split
 ·rename_i q;rcases ht with k |k |k
  ·exact absurd k q
  ·exact .inr (.inr (.inl k))
  ·exact .inr (.inr (.inr k))
 rw[if_neg (by
  simp only[ij];rintro (q |q)
  ·exact q g.aliases
  ·exact q g.Jc)]
 rw[if_neg (by
  have h:=g.HJ;rw[afs,aek];exact h)]
 rw[if_neg (by
  rw[afs,aek];intro n hm;by_cases k:n.k=9
  ·have:=hus n hm k;simp only[k,decide_true,Bool.not_true,ae8];exact this
  ·simp[k])]
 exact .inl rfl
end Go.Ab.Pn
/-
  A plan holds exactly if its condition does: what the check of a plan with values says.
-/
namespace Go.Ab.Pn
open Go.Ab.Pol
set_option maxRecDepth 100000
set_option maxHeartbeats 4000000
mutual
theorem Fb{lf lg:Int->Bool}:∀ (f:Fm) (c:Nat),(∀ j,c<=j->j<c+f.lvs->lf (j:Int)=lg (j:Int))->f.ev lf c=f.ev lg c
 |.leaf,c,h=>by
  simp only[Fm.ev];exact h c (adX _) (by simp[Fm.lvs])
 |.gate need ks,c,h=>by
  simp only[Fm.ev];rw[CH ks c (by simpa only[Fm.lvs]using h)]
theorem CH{lf lg:Int->Bool}:∀ (fs:List Fm) (c:Nat),(∀ j,c<=j->j<c+Fm.dO fs->lf (j:Int)=lg (j:Int))->Fm.evs lf c fs=Fm.evs lg c fs
 | [],_,_=>rfl
 |f :: fs,c,h=>by
  simp only[Fm.dO]at h;simp only[Fm.evs];rw[Fb f c λj h1 h2=>h j h1 (by omega),CH fs (c+f.lvs) λj h1 h2=>h j (by omega) (by omega)]
end
section
variable{us:List Us}{l:List Sc}{Q:Nd->Prop}{refs:List Rf}
theorem QY:∀ (fs:List Fm),Fm.oks fs->∀ f,oW fs=some f->f.ok∧f.lvs=Fm.dO fs
 | [],_,f,h=>by simp[oW]at h
 | [g],ok,f,h=>by
  simp only[oW,fS]at h;subst h;exact⟨ok.1,by simp[Fm.dO]⟩
 |g :: d :: r,ok,f,h=>by
  simp only[oW,fS]at h;subst h;exact⟨⟨by simp only[ad1];omega,by simp,ok⟩,by simp only[Fm.lvs]⟩
theorem MX(hf:∀ n,FdW (ak us l n))(c:Cd)(h:NF us l Q c):∀ f,(eH refs (ak us l) c).2.2=some f->f.ok∧f.lvs=(eH refs (ak us l) c).1.length:=by
 unfold eH;cases hw:bL refs (ak us l) c with
 |some a=>intro f e;simp at e
 |none=>
  cases c with
  |atom k num ns=>
   intro f e;simp only[fS]at e;subst e;obtain⟨a1,a2,_⟩:=vD (refs:=refs) hf (.atom k num ns) h;exact⟨a1,a2⟩
  |gate need ks=>
   have hk:∀ c∈ks,NF us l Q c:=λc hc=>(cu.1 h.2.2.2 c hc).1
   simp only;split
   ·intro f e;obtain⟨a1,a2,_⟩:=nM (refs:=refs) hf (narrow refs (ak us l) ks) λc hc=>hk c (ku hc)
    obtain⟨b1,b2⟩:=QY _ a1 f e;exact⟨b1,by rw[b2];exact a2⟩
   ·intro f e;simp only[fS]at e;subst e;obtain⟨a1,a2,_⟩:=vD (refs:=refs) hf (.gate need ks) h;exact⟨a1,a2⟩
end
theorem Jd{α:Type}(q:α->Bool):∀ S:List α,(S.any λx=>!q x)=!(S.all q)
 | []=>rfl
 |a :: S=>by simp only[aeJ,aeG,Bool.not_and];rw[Jd q S]
theorem MZ{P:Pl}{vs:List Int}{A S:List Pt}{F:Option Fm}(hc:Ah P=0)(hl:vs.length=P.comm.l.length)(ho:∀ v∈vs,oI v=false)(ea:P.atoms=⟨false,A⟩)(es:P.sq=⟨false,S⟩)(eg:P.gates=bK F)
  (hF:∀ f,F=some f->f.ok∧f.lvs=A.length):Fe P vs=(oD vs (A,S,F),0):=by
 have h3:¬ vs.any oI=true:=by
  rw[afe];rintro⟨v,hv,e⟩;rw[ho v hv]at e;cases e
 unfold Fe;rw[if_neg (by simp[hc]),if_neg (by simp[hl]),if_neg h3,es,ea,eg];simp only[oD];have hS:(S.any λx=>!ptH x vs)=!(S.all λa=>ptH a vs):=Jd _ S;rw[hS];cases S.all λa=>ptH a vs
 ·simp
 simp only[Bool.not_true,aef,if_false,aeu,ad2,and_true];cases F with
 |none=>simp[Je,bK]
 |some f=>
  obtain⟨o1,o2⟩:=hF f rfl;have e0:bK (some f)=⟨true,flF 0 0 f⟩:=rfl;have hne:(flF 0 0 f=[])=False:=eq_false (by cases f<;>simp[flF]);rw[e0];unfold Je;simp only[hne,decide_false,ae8];have e:Ff ⟨true,flF 0 0 f⟩ ⟨false,A.map λx=>ptH x vs⟩=tru (lfF ⟨false,A.map λx=>ptH x vs⟩) (flF 0 0 f):=rfl;rw[e,M0 f 0 0 o1 λj g hj=>by simpa using hj];refine Fb f 0 λj _ hj=>?_
  have hj2:j<A.length:=by omega
  simp[lfF,iO,aea hj2]
theorem Ai{f:Pol.Fd}:∀ (l met:List Bs),kC met l=0->l.Nodup∧∀ w∈l,w∉met
 | [],met,_=>⟨List.nodup_nil,by simp⟩
 |w :: l,met,h=>by
  simp only[kC]at h;split at h
  ·exact absurd h (by decide)
  split at h
  ·exact absurd h (by decide)
  rename_i h1 h2;obtain⟨a,b⟩:=Ai (f:=f) l (met++[w]) h;refine⟨afq.2 ⟨λhm=>b w hm (by simp),a⟩,λx hx=>?_⟩;rcases adY.1 hx with rfl |hx
  ·exact h2
  ·exact λhm=>b x hx (by simp[hm])
theorem QZ{f:Pol.Fd}(h:dh f=0)(hk:f.kind=1){i:Nat}{w:Bs}(hw:f.words.l[i]?=some w):atV f (.word w)=(i:Int):=by
 unfold dh at h;rw[if_neg (by omega),if_pos hk]at h;split at h
 ·exact absurd h (by decide)
 unfold sV at h;split at h
 ·exact absurd h (by decide)
 have nd:=(Ai (f:=f) _ _ h).1;obtain⟨hlt,e⟩:=adW.1 hw;have:(f.words.l.findIdx? λx=>decide (x=w))=some i:=by
  rw[aeZ];refine⟨hlt,by simp[e],λj hj=>?_⟩;simp only[decide_eq_true_eq];intro q;rw[<-e]at q;exact List.pairwise_iff_getElem.1 nd j i (by omega) hlt hj q
 simp only[atV,this,aeE]
section
variable{p:Po}{l:List Sc}{xs:List (Sl Int)}(hr:bI p l=0)(h:oX p l xs=0)
include hr h
theorem HL{nm attr:Bs}{u k:Nat}{f:Pol.Fd}(hq:findF p.uses.l l ⟨nm,attr⟩=some (u,k,f)) :
  QX p xs (pcR p.uses.l l ⟨nm,attr⟩)∧∀ n:Nd,n.k=9->n.nm=nm->n.attr=attr->nL p l xs (pcR p.uses.l l ⟨nm,attr⟩)=atV (ak p.uses.l l n) (eD p l xs n):=by
 obtain⟨x,s,a1,a2,a3,a4,a5,a6⟩:=kD hq;obtain⟨r1,r2,r3,r4⟩:=cx hr;have hu:u<p.uses.l.length:=(adW.1 a2).1;obtain⟨row,y,b1,b2,b3,b4⟩:=DW h hu (by rw[a4];exact a6);have hse:=eK r2 s (oY a3).1;obtain⟨c1,c2⟩:=nN hse;have hfe:=c2 f (aee a6);have hk:=(adW.1 a6).1;have hrow:=(adW.1 b2).1;have ep:pcR p.uses.l l ⟨nm,attr⟩=⟨(u:Int),(k:Int)+2⟩:=by unfold pcR;rw[hq]
 rw[ep];refine⟨⟨u,k,x,row,rfl,a2,b1,hrow,by omega⟩,λn hn e1 e2=>?_⟩;have ef:ak p.uses.l l n=f:=by unfold ak;rw[e1,e2,hq]
 have hw:FdW f:=Jf hfe;obtain⟨w1,w2,w3,w4,w5⟩:=hw;have ev:nL p l xs ⟨(u:Int),(k:Int)+2⟩=IntKind.i64.wrap (y-f.mn):=by
  unfold nL;simp only[aev,b1,a2];rw[show ((k:Int)+2-2).toNat=k by omega,iO,b2,E8 x.sc k s f a6 l 0 r3 a3];rfl
 obtain⟨z,d1,d2,d3⟩:=Aj (n:=n) h hu (by rw[a4,e2];exact a5) (by rw[a4];exact a6);have e3:jM p l xs n u=if f.kind=1 then .word ((f.words.l[y.toNat]?).getD []) else .num y:=by
  unfold jM;simp only[e2,a4,a5,a6,b1,b2]
 have e4:eD p l xs n=jM p l xs n u:=by
  unfold eD;rw[if_neg (by omega),if_neg (by omega),e1,a1]
 rw[ev,ef,e4,e3];rcases w1 with k0 |⟨k1,m0,m1,m2⟩
 ·unfold loF at b3;unfold hiF at b4;rw[if_neg (by omega)]at b3 b4;rw[if_neg (by omega)];simp only[atV];exact wrap64 (by omega) (by omega)
 ·obtain⟨g1,w,g2,g3⟩:=DX k1 b3 b4;unfold hiF at b4;rw[if_pos k1]at b4;rw[if_pos k1,g2,aeE,QZ hfe k1 g2,m0,wrap64 (by omega) (by omega)];omega
theorem Un{refs:List Rf}(hv:∀ r∈refs,(findF p.uses.l l r).isSome=true):∀ c∈refs.map (pcR p.uses.l l),QX p xs c:=λc hc=>by
 obtain⟨r,hm,rfl⟩:=aeg.1 hc;have:=hv r hm;cases e:findF p.uses.l l r with
 |none=>rw[e]at this;cases this
 |some q=>
  obtain⟨u,k,f⟩:=q;exact (HL hr h (nm:=r.al) (attr:=r.attr) e).1
theorem Q0{refs:List Rf}(hv:∀ r∈refs,(findF p.uses.l l r).isSome=true):oZ p.uses.l l (Pol.inR refs) refs (eD p l xs) ((refs.map (pcR p.uses.l l)).map (nL p l xs)) where
 ix x hx:=by rw[ad6,ad6];exact HM hx
 val x hk hx:=by
  have e:=Ak hx;have:=hv _ hx;rw[iO,aeh,aeh,e];simp only[aeK,aeE];cases eq:findF p.uses.l l ⟨x.nm,x.attr⟩ with
  |none=>rw[eq]at this;cases this
  |some q=>
   obtain⟨u,k,f⟩:=q;exact (HL hr h eq).2 x hk rfl rfl
theorem M3{refs:List Rf}(hv:∀ r∈refs,(findF p.uses.l l r).isSome=true):∀ v∈(refs.map (pcR p.uses.l l)).map (nL p l xs),0<=v∧v<=aU:=λv hm=>by
 rw[aeR]at hm;obtain⟨r,hr',rfl⟩:=aeg.1 hm;have:=hv r hr';cases eq:findF p.uses.l l r with
 |none=>rw[eq]at this;cases this
 |some q=>
  obtain⟨u,k,f⟩:=q;have e:=(HL hr h (nm:=r.al) (attr:=r.attr) eq).2 ⟨9,0,r.al,r.attr,⟨true,[]⟩,0⟩ rfl rfl rfl;show 0<=nL p l xs (pcR p.uses.l l r)∧nL p l xs (pcR p.uses.l l r)<=aU;rw[show pcR p.uses.l l r=pcR p.uses.l l ⟨r.al,r.attr⟩ from rfl,e];have V:=uf (xs:=xs) (eK (cx hr).2.1) h;refine fR (jS hr _ _) ?_;by_cases c:(ak p.uses.l l ⟨9,0,r.al,r.attr,⟨true,[]⟩,0⟩).kind=0
  ·exact .inl (V.vE _ rfl c)
  ·exact .inr (V.Al _ rfl c)
end
end Go.Ab.Pn
/-
  The law of a plan's meaning.
-/
namespace Go.Ab.Pn
open Go.Ab.Pol
set_option maxRecDepth 100000
set_option maxHeartbeats 8000000
theorem Uo{vl:Nd->Vl}{c:Cd}(h:c.isT=true):bD vl c=true:=by
 cases c with
 |atom k n vs=>simp only[Cd.isT,decide_eq_true_eq]at h;simp[bD,h]
 |gate n ks=>cases h
theorem Uq{vl:Nd->Vl}{c:Cd}(h:c.isF=true):bD vl c=false:=by
 cases c with
 |atom k n vs=>simp only[Cd.isF,decide_eq_true_eq]at h;simp[bD,h]
 |gate n ks=>cases h
theorem M4{p:Po}{l:List Sc}{t:Tr}(g:Pol.Good p t)(hty:(fB p l t).2=0):(gQ p l t).2=0∨((gQ p l t).2=18∧(aS p l t).isF=true)∨(gQ p l t).2=6∨(gQ p l t).2=2∨(gQ p l t).2=7:=by
 have hs:=MV g hty;have e:(iD p l t).2=Pol.chk (bA p l t):=by
  unfold iD;rw[if_neg (by simp[hty])];split
  ·rfl
  ·rename_i q;exact (Decidable.not_not.1 q).symm
 unfold gQ;split
 ·rw[e];rename_i q;rw[e]at q;rcases hs with k |k |k |k
  ·exact absurd k q
  ·exact .inr (.inr (.inl k))
  ·exact .inr (.inr (.inr (.inl k)))
  ·exact .inr (.inr (.inr (.inr k)))
 split
 ·rename_i q;exact .inr (.inl ⟨rfl,q⟩)
 split
 ·unfold pz;split
  ·exact .inr (.inr (.inl rfl))
  split
  ·exact .inr (.inr (.inr (.inl rfl)))
  ·rename_i q _ _;unfold pz at q
   simp_all
 ·exact .inl rfl
section
variable{p:Po}{l:List Sc}{t:Tr}{xs:List (Sl Int)}(g:Pol.Good p t)(hty:(fB p l t).2=0)(hm:oX p l xs=0)
include g hty hm
theorem CI:bD (eD p l xs) (aS p l t)=truth (eD p l xs) t:=by
 have hr:=(gS hty).1;have V:=uf (xs:=xs) (eK (cx hr).2.1) hm;have ty:=Jg t g.isT g.wf (pE hty).1.conds;have:=mF V t false ty;rw[show aS p l t=norm (ak p.uses.l l) false t from rfl,this];cases truth (eD p l xs) t<;>rfl
theorem Lf(ok:HP p l t):bD (eD p l xs) (cG (aS p l t))=truth (eD p l xs) t:=by
 have hr:=(gS hty).1;have V:=uf (xs:=xs) (eK (cx hr).2.1) hm;have ty:=Jg t g.isT g.wf (pE hty).1.conds;have hn:NFp p.uses.l l (sU p t) (aS p l t):=mE g hty (tZ g.isT) false;have e1:=HQ V (λv=>rfl) ty hn;have ft:=(pE (p:=ij p (aS p l t)) (l:=l) (t:=aV 0 (aS p l t)) (by rw[DY hty ok.chk hn])).1;have ty2:Ty (ak p.uses.l l) (aV 0 (aS p l t)):=Jg _ ok.good.isT ok.good.wf ft.conds;have e2:=mF V (aV 0 (aS p l t)) false ty2;rw[Fg hn]at e2;rw[e2];rw[show truth (eD p l xs) (aV 0 (aS p l t))=(truth (eD p l xs) t != false) from e1];cases truth (eD p l xs) t<;>rfl
theorem HR(ok:HP p l t)(hF:(aS p l t).isF≠true):oD (((bS p l t).map (pcR p.uses.l l)).map (nL p l xs)) (aZ p l t)=truth (eD p l xs) t:=by
 have hr:=(gS hty).1;rcases ug ok hF with⟨e,hT⟩ |⟨hnf,e⟩
 ·rw[e,<-CI g hty hm,Uo hT];rfl
 ·have V:=uf (xs:=xs) (eK (cx hr).2.1) hm;rw[e,HT (jS hr _) V (Q0 hr hm ok.found) _ hnf,Lf g hty hm ok]
end
theorem Z6(L:List Int):(⟨false,L⟩:Sl Int).avS iV=.lst (L.map iV):=by cases L<;>rfl
theorem acV(p:Po)(hp:aPo p)(l:Sl Sc)(hl:oH aSc l)(xs:Sl (Sl Int)):(mu K5).fn 9 [cAV p l xs] []=some (.val (.bool true) []):=by
 have k10:=λh=>HV (f10 p l h)
 have q1:=ay _ dR p.uses;have q2:=ay _ fK p.aA;have q3:=ay _ dK p.nodes;have q4:=ay _ fC l;have q6:=ay _ DT xs;have aw:=λf=>up5 (Q3 f)
 rw[aB (KX5 _ _ _) (Ul fn9) rfl (by simp[c9])];cases hf:Fh p l.l
 ·rw[hf]at k10;simp[c9,KL5,aa,k10,aw,q1,q2,q3,q4,q6]
 rw[hf]at k10;by_cases h6:6<xs.l.length
 ·have c6:(6:Int)<(xs.l.length:Int):=by omega
  simp[c9,KL5,aa,k10,aw,q1,q2,q3,q4,q6,h6,c6]
 have c6:((6:Int)<(xs.l.length:Int))=False:=eq_false (by omega);obtain⟨z,zl,h30⟩:=M5 hp hl hf;obtain⟨t,ht⟩:=Lg p;have k12:=λh=>f12 p z l zl t ht (by omega) h
 by_cases h0:CJ p l.l t xs.l=0
 case neg=>
  have k30:=λh=>HV (Z7 p z l zl t ht xs h0 h)
  cases hP:gQ p l.l t with
  |mk P e=>
   rw[hP]at k12;have pd:P.av=.agg [P.iN.avS Pc.av,P.comm.avS Pc.av,P.atoms.avS Pt.av,P.gates.avS Gt.av,P.sq.avS Pt.av]:=rfl;have b1:=ay _ DZ P.iN;have b2:=ay _ DZ P.comm;have b3:=ay _ D2 P.atoms;have b4:=ay _ M6 P.gates;have b5:=ay _ D2 P.sq;simp[c9,KL5,aa,k10,k12,k30,aw,q1,q2,q3,q4,q6,h6,c6,h0,b1,b2,b3,b4,b5]
 have hty:(fB p l.l t).2=0:=by
  by_cases c:(fB p l.l t).2=0
  ·exact c
  ·unfold CJ at h0;rw[if_pos c]at h0;exact absurd h0 c
 have hm:oX p l.l xs.l=0:=by unfold CJ at h0;rw[if_neg (by simp[hty])]at h0;exact h0
 have hr:=(gS hty).1;have g:=ht (cx hr).1;have fit:=(pE hty).1;have k30:=λh=>HV (Z8 p z l zl t g xs fit hm h)
 by_cases hz:(gQ p l.l t).2=0
 case neg=>
  have hzp:=Lh hz;rw[hzp]at k12;rw[D3]at k12;rcases M4 g hty with k |⟨k,hF⟩ |k |k |k
  ·exact absurd k hz
  ·have ev:truth (eD p l.l xs.l) t=false:=by rw[<-CI g hty hm];exact Uq hF
   rw[ev]at k30;rw[k]at k12;simp[c9,KL5,aa,k10,k12,k30,aw,q1,q2,q3,q4,q6,h6,c6]
  all_goals
   rw[k]at k12;simp[c9,KL5,aa,k10,k12,k30,aw,q1,q2,q3,q4,q6,h6,c6]
 obtain⟨hc,ha,ok,hF,_,hfit,he⟩:=Li ht (by omega) hz;have Z9:=HR g hty hm ok hF;have hpx:(aZ p l.l t)=((aZ p l.l t).1,(aZ p l.l t).2.1,(aZ p l.l t).2.2):=rfl;have hfm:∀ f,(aZ p l.l t).2.2=some f->f.ok∧f.lvs=(aZ p l.l t).1.length:=by
  rcases ug ok hF with⟨e,_⟩ |⟨hnf,e⟩
  ·rw[e];intro f q;cases q
  ·rw[e];exact MX (jS hr _) _ hnf
 have hin:=Un hr hm ok.found;have Ur:=M3 hr hm ok.found;generalize hP:(gQ p l.l t).1=P at *
 rw[hz]at k12;have ecm:P.comm.l=(bS p l.l t).map (pcR p.uses.l l.l):=by rw[he]
 have h31:=λh=>f31 p l xs P h (by have:=z.uses;omega) (by have:=zl.1;omega) (by omega) (by have:=ha.sz.comm;omega) (λr hr'=>by
  obtain⟨a1,a2,a3⟩:=Jh hm;obtain⟨i,hi⟩:=List.mem_iff_getElem?.1 hr';have hmem:(r,i)∈xs.l.zipIdx:=afU.2 hi;have a:=aek.1 a2 _ hmem;simp only[mG,decide_eq_true_eq]at a;have:=(HX zl p i).len;omega) (by rw[ecm];exact hin)
 have hh:=MZ (P:=P) (vs:=P.comm.l.map (nL p l.l xs.l)) (A:=(aZ p l.l t).1) (S:=(aZ p l.l t).2.1) (F:=(aZ p l.l t).2.2) hc (by simp) (λv hv=>by
  rw[ecm]at hv;obtain⟨v1,v2⟩:=Ur v hv;unfold aU at v2;unfold oI;simp;omega) (by rw[he]) (by rw[he]) (by rw[he]) hfm
 rw[ecm]at hh;rw[<-hpx,Z9]at hh;have k28:=λh=>up5 (f28 P ha.sz ⟨false,P.comm.l.map (nL p l.l xs.l)⟩ (by simp;have:=ha.sz.comm;omega) h)
 rw[Z6]at k28;simp only[ecm]at k28 h31;rw[hh]at k28;generalize ((bS p l.l t).map (pcR p.uses.l l.l)).map (nL p l.l xs.l)=vs at *
 have pd:P.av=.agg [P.iN.avS Pc.av,P.comm.avS Pc.av,P.atoms.avS Pt.av,P.gates.avS Gt.av,P.sq.avS Pt.av]:=rfl;have b1:=ay _ DZ P.iN;have b2:=ay _ DZ P.comm;have b3:=ay _ D2 P.atoms;have b4:=ay _ M6 P.gates;have b5:=ay _ D2 P.sq;cases truth (eD p l.l xs.l) t<;>simp[c9,KL5,aa,k10,k12,k30,h31,k28,aw,q1,q2,q3,q4,q6,h6,c6,b1,b2,b3,b4,b5]
end Go.Ab.Pn
/-
  The case of chapter 45 as an argument of the law of a plan's meaning.
-/
namespace Go.Ab.Pn
open Go.Ab.Pol
open _root_.Go.Proofs _root_.Go.ChangeMaps _root_.Go.ChangeShapes _root_.Go.WideShapes _root_.Go.RowKit
set_option maxRecDepth 100000
structure Cas where
 p:Po
 l:Sl Sc
 xs:Sl (Sl Int)
abbrev Cas.cs(x:Cas):List AV:=x.p.cs++[x.l.avS Sc.av,jJ x.xs]
abbrev Cas.av(x:Cas):AV:=.agg x.cs
structure Q4 (x:Cas):Prop where
 p:aPo x.p
 l:oH aSc x.l
 xs:oH (oH (okI .i64)) x.xs
abbrev M7:List TT:=[acn,.slice Yr,.slice (.slice (.int .i64))]
theorem Ut(l:List AV)(h:TT.tQ M7 l):∃ x:Cas,l=Cas.cs x∧Q4 x:=by
 obtain⟨a0,b0,rfl,p0,q0⟩:=bu h;obtain⟨x0,rfl,y0⟩:=Yl a0 p0;obtain⟨a1,b1,rfl,p1,q1⟩:=bu q0;obtain⟨x1,rfl,y1⟩:=bP rfl (tP Yu) p1;obtain⟨a2,b2,rfl,p2,q2⟩:=bu q1;obtain⟨x2,rfl,y2⟩:=bP rfl (tP (tP (lR .i64))) p2;obtain rfl:=nC q2;exact⟨⟨x0,x1,x2⟩,rfl,⟨y0,y1,y2⟩⟩
theorem Uu:Rd (.struct M7) Cas.av Q4:=jR Ut
section
variable{H:Type}{enc:TypeId×Value->H}{W:World}{base b:Nat}{sp:Nat->Bool}{hd:Bool}{v:Value}{d:DataW H}{ps:List MemPlace}
theorem Q5(hv:Value.okWide Tryz.prog W .any base 76 v)(h:DataW.Trod enc Tryz.prog W b sp hd 76 v d ps)(hz:∀ n∈d.weights Tryz.prog 76,n<=reachBytes):∃ x:Cas,Q4 x∧az W (G0 W) bF x.av v:=by
 obtain⟨av,h1,h2,h3⟩:=Uv (.struct M7) (by kernel_rfl) hv h hz;obtain⟨x,rfl,k⟩:=Uu av h2 h1;exact⟨x,k,h3⟩
end
theorem aaa(x:Cas)(h:Q4 x):(mu K5).fn 9 [x.av] []=some (.val (.bool true) []):=acV x.p h.p x.l h.l x.xs
end Go.Ab.Pn
/-
  A closed fact of the program: whether a call may enter.
-/
namespace Go.Proofs.YtjnomgdildcbhaaGreatDoor
theorem Lj:Tryz.prog.mayEnter=true:=by kernel_rfl
end Go.Proofs.YtjnomgdildcbhaaGreatDoor
/-
  A closed fact of the program: what is lifted.
-/
namespace Go.Proofs.YtjnomgdildcbhaaGreatDoor
theorem Uw:Tryz.prog.liftsFinal=Rows.planAtomsRow.lifted:=by kernel_rfl
end Go.Proofs.YtjnomgdildcbhaaGreatDoor
/-
  A closed fact of the program: how it was made.
-/
namespace Go.Proofs.YtjnomgdildcbhaaGreatDoor
theorem aab:Tryz.prog.make=some Rows.planAtomsRow.make:=by kernel_rfl
end Go.Proofs.YtjnomgdildcbhaaGreatDoor
/-
  The world in which the listed tables lie as the rows say.
-/
namespace Go.Proofs.YtjnomgdildcbhaaGreatDoor
def Ll(d:DataW Unit):Array Value:=
 match d with
 |.agg l=>(l.map fun |.lit (.int k n)=>Value.int k n |_=>Value.int .i64 0).toArray
 |_=>#[]
noncomputable def qJ (os:Os):World:=
 let w0:=World.holding Tryz.prog os ⟨#[],#[],[]⟩
 let put:=λ(h:Array Obj) (g:Nat) (d:DataW Unit)=>h.modify g fun
   |.cells _ t frozen=>.cells (Ll d) t frozen
   |o=>o
 { w0 with heap:=put (put (put w0.heap 1 Rows.laid_math_bits_deBruijn32tab) 2 Rows.laid_math_bits_deBruijn64tab) 0 Rows.laid_internal_strconv_uint64pow10 }
set_option maxRecDepth 100000 in
theorem M8(os:Os)(args:Array Value):laidMet Tryz.prog Rows.planAtomsRow.laid ((qJ os).forCall (λ_ _=>0) ⟨#[],args,[]⟩).memory:=
 laidMet_of_run' 8 (by kernel_rfl) (by kernel_rfl)
set_option maxRecDepth 100000 in
theorem Lm(os:Os)(args:Array Value):((qJ os).forCall (λ_ _=>0) ⟨#[],args,[]⟩).variablesB Tryz.prog=true:=by kernel_rfl
set_option maxRecDepth 100000 in
theorem Lp (os : Os) (args : Array Value) : ((((qJ os).forCall (fun _ _ => 0) ⟨#[], args, []⟩).heap.toList.drop Tryz.prog.globals.size).take ((begin Tryz.prog (fun _ _ => 0) default).world.heap.size - Tryz.prog.globals.size) =
      (begin Tryz.prog (λ_ _=>0) default).world.heap.toList.drop Tryz.prog.globals.size):=by kernel_rfl
end Go.Proofs.YtjnomgdildcbhaaGreatDoor
