/-
  The maker's lists; a range that is proved by squares.
-/
import Derived.Test.YtjnomgdildcbhaaGreatDoorAb4dU3
set_option linter.all false
set_option maxRecDepth 100000
set_option maxHeartbeats 4000000
namespace Go.Ab.Pn
open Go.Ab.Pol
theorem jH:∀(h:Heap) (a b:Loc) (B C:Blk),a≠b->aQ (aQ h a B) b C=aQ (aQ h b C) a B
 | [],_,_,_,_,_=>rfl
 |f::o,a,b,B,C,hn=>by
  by_cases e:a.1=o.length
  ·by_cases e':b.1=o.length
   ·have:a.2≠b.2:=λq=>hn (Prod.ext (by omega) q)
    simp[aQ,e,e',List.set_comm _ _ this]
   ·simp[aQ,e,e',bp]
  ·by_cases e':b.1=o.length
   ·simp[aQ,e,e',bp]
   ·simp[aQ,e,e',bp,jH o a b B C hn]
theorem cW{h:Heap}{a b:Loc}(hn:a≠b)(B:Blk):hget (aQ h a B) b=hget h b:=by
 rw[gF,if_neg λq=>hn q.1.symm]
theorem oa{h:Heap}{a c:Loc}{B:Blk}(d:dom h c):dom (aQ h a B) c:=(bI h a c B).2 d
def mkB(nodes:Sl Nd)(am:Loc)(D C:AV)(aL sL:Loc)(an sn:Nat):Blk:=.box 95 false (.agg [nodes.avS Nd.av,.mp am,D,C,.own aL an,.ay,.own sL sn])
structure Pls (nodes:Sl Nd)(fd:Nd->Pol.Fd)(j0:List Rf)(Q:Nd->Prop)(h:Heap)(b am aL sL:Loc):Prop where
 hf:∀n,FdW (fd n)
 len:nodes.l.length<=1000
 db:dom h b
 da:dom h aL
 ds:dom h sL
 ba:b≠aL
 bs:b≠sL
 asn:aL≠sL
 lea:aL.1<=b.1
 les:sL.1<=b.1
 mp:∃es:List (AV×AV),hget h am=some (.map es)∧am≠b∧am≠aL∧am≠sL ∧
  ∀x,Q x->∃(c:Loc) (ws:List (AV×AV)),hget h c=some (.map ws)∧c≠b∧c≠aL∧c≠sL∧WdM (fd x) ws∧gI (.st [.str,.str]) (.agg [.str x.nm,.str x.attr]) es=some (some (je (ixR j0 x:Int) (fd x) (.mp c)))
section
variable(nodes:Sl Nd)(fd:Nd->Pol.Fd)(j0:List Rf)(Q:Nd->Prop)(h:Heap)(b am aL sL:Loc)(D C:AV)
def bG(A S:List Pt):Heap:=aQ (aQ (aQ h aL (ptB A)) sL (ptB S)) b (mkB nodes am D C aL sL A.length S.length)
theorem fB(A S:List Pt):(bG nodes h b am aL sL D C A S).length=h.length:=by simp[bG,bp]
variable(m:Pls nodes fd j0 Q h b am aL sL)
include m
theorem Cy{a:Loc}(h1:a≠b)(h2:a≠aL)(h3:a≠sL)(A S:List Pt):hget (bG nodes h b am aL sL D C A S) a=hget h a:=by
 unfold bG;rw[cW h1.symm,cW h3.symm,cW h2.symm]
theorem rH(A S:List Pt):hget (bG nodes h b am aL sL D C A S) b=some (mkB nodes am D C aL sL A.length S.length):=by
 unfold bG;rw[fq];exact oa (oa m.db)
theorem Xf(A S:List Pt):hget (bG nodes h b am aL sL D C A S) aL=some (ptB A):=by
 unfold bG;rw[cW m.ba,cW m.asn.symm,fq m.da]
theorem Xg(A S:List Pt):hget (bG nodes h b am aL sL D C A S) sL=some (ptB S):=by
 unfold bG;rw[cW m.bs,fq];exact oa m.ds
theorem NS(A A' S:List Pt):aQ (aQ (bG nodes h b am aL sL D C A S) aL (ptB A')) b (mkB nodes am D C aL sL A'.length S.length)=bG nodes h b am aL sL D C A' S:=by
 unfold bG;rw[jH _ b aL _ _ m.ba,cO,jH _ sL aL _ _ m.asn.symm,cO]
theorem NT(A S S':List Pt):aQ (aQ (bG nodes h b am aL sL D C A S) sL (ptB S')) b (mkB nodes am D C aL sL A.length S'.length)=bG nodes h b am aL sL D C A S':=by
 unfold bG;rw[jH _ b sL _ _ m.bs,cO,cO]
theorem LW(A S:List Pt):Mk nodes fd j0 Q (bG nodes h b am aL sL D C A S) b:=by
 obtain⟨es,h1,h2,h3,h4,h5⟩:=m.mp;refine⟨m.hf,m.len,am,[D,C,.own aL A.length,.ay,.own sL S.length],es,rH nodes fd j0 Q h b am aL sL D C m A S,?_,λx hx=>?_⟩
 ·rw[Cy nodes fd j0 Q h b am aL sL D C m h2 h3 h4];exact h1
 ·obtain⟨c,ws,c1,c2,c3,c4,c5,c6⟩:=h5 x hx;exact⟨c,ws,by rw[Cy nodes fd j0 Q h b am aL sL D C m c2 c3 c4];exact c1,c5,c6⟩
end
section
variable{us:List Us}{l:List Sc}(nodes:Sl Nd)(j0:List Rf)(Q:Nd->Prop)(hQ:∀v,Q v->Q (aM v))(h:Heap)(b am aL sL:Loc)(D C:AV)(m:Pls nodes (au us l) j0 Q h b am aL sL)
include m
theorem sU(A S:List Pt):(b.1=(bG nodes h b am aL sL D C A S).length)=False∧(aL.1=(bG nodes h b am aL sL D C A S).length)=False∧(sL.1=(bG nodes h b am aL sL D C A S).length)=False ∧
  ((bG nodes h b am aL sL D C A S).length=b.1)=False∧((bG nodes h b am aL sL D C A S).length=aL.1)=False∧((bG nodes h b am aL sL D C A S).length=sL.1)=False:=by
 have h1:=eD m.db;have h2:=eD m.da;have h3:=eD m.ds;rw[fB];refine⟨?_,?_,?_,?_,?_,?_⟩<;>(simp;omega)
theorem JR(n:Nd)(hk:n.k≠7)(A S:List Pt):(mu K).fn 88 [.ptr b 0,n.av] (bG nodes h b am aL sL D C A S)=some (.val (.bool false) (bG nodes h b am aL sL D C A S)):=by
 rw[aC (KX _ _ _) Y4 rfl (by simp[c88])];simp[c88,hk]
theorem abx(n:Nd)(hk:n.k=7)(a:Pt)(A S:List Pt)(ha:-4611686018427387904<=a.hi-a.lo∧a.hi-a.lo<=4611686018427387904)(hs:S.length<=100000)
  (xN:∀F:List Blk,(mu K).fn 141 [.ptr b 0,n.av] (F::bG nodes h b am aL sL D C A S)=some (.val (.lst [a.av]) (F::bG nodes h b am aL sL D C A S))) :
  (mu K).fn 88 [.ptr b 0,n.av] (bG nodes h b am aL sL D C A S)=some (.val (.bool (decide (64<=a.hi-a.lo))) (bG nodes h b am aL sL D C A (S++if 64<=a.hi-a.lo then [a] else []))):=by
 obtain⟨nk,nn,n1',n2',nks,np⟩:=n;simp only at hk;subst hk;have qk:=ak _ aP nks;have w:IntKind.i64.wrap (a.hi-a.lo)=a.hi-a.lo:=wrap64 (by omega) (by omega);obtain⟨n1,n2,n3,n4,n5,n6⟩:=sU nodes j0 Q h b am aL sL D C m A S;have gb:=rH nodes (au us l) j0 Q h b am aL sL D C m A S;have gs:=Xg nodes (au us l) j0 Q h b am aL sL D C m A S;have st:=NT nodes (au us l) j0 Q h b am aL sL D C m A S (S++[a]);have r1:(S.length+1)*40<=room:=by unfold room;omega
 have r2:S.length+1<=room:=by unfold room;omega
 obtain⟨ot,oz,ho,hz⟩:=jD S;have ho2:=wD S a;have q3:=ak _ bX nodes;generalize hH:bG nodes h b am aL sL D C A S=H at *
 have les:=m.les;have ob:=λX=>cW (h:=H) (agh m.bs) X
 simp only[mkB]at gb st;rw[ho]at gs;rw[ho2]at st;rw[aC (KX _ _ _) Y4 rfl (by simp[c88])];by_cases c:64<=a.hi-a.lo
 ·have c':(a.hi-a.lo<64)=False:=eq_false (by omega);simp only[afr,Io,iO,afu]at st;simp[c88,KL,aa,xN,hget,aQ,n1,n3,gb,gs,ob,les,st,w,c,c',r1,r2,hz]
 ·have c':(a.hi-a.lo<64)=True:=eq_true (by omega);simp[c88,KL,aa,xN,hget,aQ,w,c,c',hH]
end
theorem aby(e:AV)(es:List AV)(hs:es.length<=1000)(he:∀x∈e::es,x.cells.length=1)(T:List Blk)(h:Heap) :
  (mu K).fn 187 [.lst (e::es)] (T::h)=some (.val (.own (h.length,T.length) (es.length+1)) ((T++[.arr 3 1 false (e::es)])::h)):=by
 have r1:(es.length+1)*8<=room:=by unfold room;omega
 have r2:es.length+1<=room:=by unfold room;omega
 have h1:=he e (by simp);have h2:∀x∈es,x.cells.length=1:=λx hx=>he x (by simp[hx])
 rw[aC (KXc _ _ _ (by decide) (by simp)) U5 rfl (by simp[OS])];have h3:(∀x,x∈es->x.cells.length=1)=True:=eq_true h2;simp[OS,r1,r2,h1,h3]
theorem abz(T:List Blk)(h:Heap):(mu K).fn 187 [.ay] (T::h)=some (.val .ay (T::h)):=by
 rw[aC (KXc _ _ _ (by decide) (by simp)) U5 rfl (by simp[OS])];simp[OS]
theorem Ez(a4 a10 a11 a15 a17 a63 a64 a65 a82 a83 a84:AV)(d:Nat)(ks:List Int)(hk:ks.length<=1000)(hd:d<=1000)(hb:∀k∈ks,0<=k∧k<=1000)(nd lf:AV)(hn1:nd.cells.length=1∧nd.isAgg=false)(B17:Blk)(T:List Blk)(h:Heap) :
  ∀(s j4:List Int),ks=j4++s->∃j3,
   (mu K).code (.af (T.length+3) [4,10,11,14,15,17,18,63,64,65,82,83,84,96,97] lM) ⟨[(4,a4),(10,a10),(11,a11),(14,iV (d:Int)),(15,a15),(17,a17),(18,.ptr (h.length,T.length+2) 0),(63,a63),(64,a64),(65,a65),(82,a82),(83,a83),(84,a84),(96,iV (ks.length:Int)),(97,iV (j4.length:Int))],
    (T++[B17,.arr 3 1 false (j4.map (λk=>iV (k+(d:Int)))++s.map iV),.box 140 false (.agg [nd,.own (h.length,T.length+1) ks.length,lf])])::h⟩ =
   some (.exit 6,⟨j3,(T++[B17,.arr 3 1 false (ks.map λk=>iV (k+(d:Int))),.box 140 false (.agg [nd,.own (h.length,T.length+1) ks.length,lf])])::h⟩) ∧
   get j3 4=a4∧get j3 10=a10∧get j3 11=a11∧get j3 14=iV (d:Int)∧get j3 15=a15∧get j3 17=a17∧get j3 18=.ptr (h.length,T.length+2) 0∧get j3 63=a63∧get j3 64=a64∧get j3 65=a65∧get j3 82=a82∧get j3 83=a83∧get j3 84=a84
 | [],j4,e=>by
  rw[afz]at e;subst e;rw[aj];generalize (mu K).code (.af (T.length+3) [4,10,11,14,15,17,18,63,64,65,82,83,84,96,97] lM)=F;simp[lM]
 |k::s,j4,e=>by
  have ih:=Ez a4 a10 a11 a15 a17 a63 a64 a65 a82 a83 a84 d ks hk hd hb nd lf hn1 B17 T h s (j4++[k]) (by simp[e]);have hl:ks.length=j4.length+(s.length+1):=by rw[e];simp
  obtain⟨k0,k1⟩:=hb k (by rw[e];simp);have c1:((j4.length:Int)<(ks.length:Int))=True:=eq_true (by omega);have w1:IntKind.i64.wrap (k+(d:Int))=k+(d:Int):=wrap64 (by omega) (by omega);have w2:=wrS (n:=j4.length) (by omega);have e1:(j4.map (λk=>iV (k+(d:Int)))++iV k::s.map iV)[j4.length]?=some (iV k):=by
   rw[afT (by simp)];simp
  have e2:(j4.map (λk=>iV (k+(d:Int)))++iV k::s.map iV).set j4.length (iV (k+(d:Int)))=j4.map (λk=>iV (k+(d:Int)))++iV (k+(d:Int))::s.map iV:=by
   rw[agZ _ _ (by simp)];simp
  have e3:(j4.map (λk=>iV (k+(d:Int)))++iV k::s.map iV).length=ks.length:=by simp;omega
  rw[aj];generalize (mu K).code (.af (T.length+3) [4,10,11,14,15,17,18,63,64,65,82,83,84,96,97] lM)=F at *
  simp only[afE,afj,afw,afX,List.singleton_append,afr,Io,iO,afu]at ih;simp only[afj];rw[show ((j4.length+1:Nat):Int)=(j4.length:Int)+1 by omega]at ih;simp[lM,c1,e1,e2,e3,w1,w2];exact ih
theorem JS(N:Nat)(j3:Env)(H:Heap)(h1:get j3 96=iV 0)(h2:get j3 97=iV 0):(mu K).code (.af N [4,10,11,14,15,17,18,63,64,65,82,83,84,96,97] lM) ⟨j3,H⟩=some (.exit 6,⟨(98,.bool false)::j3,H⟩):=by
 rw[aj];generalize (mu K).code _=F;simp[lM,h1,h2]
def GtJ(g:Gt):Prop:=g.kids.nl=true∧g.kids.l.length<=1000∧(∀k∈g.kids.l,0<=k∧k<=1000)∧0<=g.leaf∧g.leaf<=1000
theorem oc(p:Loc->Bool):∀l:List Gt,AV.cD p (l.map Gt.av)=true
 | []=>rfl
 |g::l=>by
  have:=oc p l;simp only[afj,AV.cD,this,agA];simp[AV.aO,AV.cD]
theorem HX(pg:List Gt)(g:Gt):lvG (pg++[g])=lvG pg+if g.kids.l=[] then 1 else 0:=by
 rw[FV]
 congr 1
 unfold lvG;by_cases c:g.kids.l=[]<;>simp[c]
theorem lX(p:Loc->Bool):∀a b:List AV,AV.cD p (a++b)=(AV.cD p a&&AV.cD p b)
 | [],b=>rfl
 |x::a,b=>by simp only[afo,AV.cD,lX p a b,Bool.and_assoc]
section
variable(a4 a63 a64 a65:AV)(p63:a63.pure=true)(p64:a64.pure=true)(p65:a65.pure=true)(d e:Nat)(hd:d<=1000)(he:e<=1000)
 (R:List Blk) (hR:∀p,R.all (Blk.aO p)=true) (rt:AV) (h:Heap) (p4:a4.aO (λa=>!(a.1==h.length) ||decide (a.2<R.length+2))=true) (hrt:rt.aO (λa=>!(a.1==h.length) ||decide (a.2<R.length+2))=true) (hrc:rt.cells.length=3)
include p4 p63 p64 p65 hd he hR hrt hrc
theorem JT(gs pg sg:List Gt)(g:Gt)(hgs:gs=pg++g::sg)(hgl:gs.length<=1000)(hg:GtJ g)(hk:g.kids.l=[])(G:List Gt)(hG:G.length<=100000)(cnt:Nat)(hc:cnt<=1000) :
  (mu K).code (.af (R.length+2) [4,10,11,14,15,63,64,65,82,83,84] ju) ⟨[(4,a4),(10,.own (h.length,1) (G.length+1)),(11,iV (e:Int)),(14,iV (d:Int)),(15,iV (cnt:Int)),(63,a63),(64,a64),(65,a65),(82,.lst (gs.map Gt.av)),(83,iV (gs.length:Int)),(84,iV (pg.length:Int))],(.box 34 false (.agg [.ay])::.arv 140 3 (rt::G.map Gt.av)::R)::h⟩ =
  (mu K).code (.af (R.length+2) [4,10,11,14,15,63,64,65,82,83,84] ju) ⟨[(4,a4),(10,.own (h.length,1) ((G++[bQ d e g]).length+1)),(11,iV (e:Int)),(14,iV (d:Int)),(15,iV ((cnt+1:Nat):Int)),(63,a63),(64,a64),(65,a65),(82,.lst (gs.map Gt.av)),(83,iV (gs.length:Int)),(84,iV ((pg++[g]).length:Int))],(.box 34 false (.agg [.ay])::.arv 140 3 (rt::(G++[bQ d e g]).map Gt.av)::R)::h⟩:=by
 obtain⟨g1,g2,g3,g4,g5⟩:=hg;have hl:gs.length=pg.length+(sg.length+1):=by rw[hgs];simp
 have c1:((pg.length:Int)<(gs.length:Int))=True:=eq_true (by omega);have e1:=λ(q:IntKind)=>cG (sz:=3) (l:=gs.map Gt.av) (k:=q) (j:=(pg.length:Int)) (v:=g.av) (by omega) (by rw[hgs];simp) rfl
 have ek:g.kids.avS iV=.ay:=by simp[Sl.avS,hk,g1,lv]
 have pd:g.av=.agg [iV g.need,.ay,iV g.leaf]:=by rw[<-ek]
 have w1:IntKind.i64.wrap (g.leaf+(e:Int))=g.leaf+(e:Int):=wrap64 (by omega) (by omega);have w2:=wrS (n:=pg.length) (by omega);have w3:=wrS (n:=cnt) (by omega);have k1:=λj3 H=>JS (R.length+2+2) j3 H
 have Xi:=abz;have r1:(G.length+1+1)*40<=room:=by unfold room;omega
 have r2:G.length+1+1<=room:=by unfold room;omega
 have es:(bQ d e g).av=.agg [iV g.need,.ay,iV (g.leaf+(e:Int))]:=by
  unfold bQ;rw[if_pos hk];simp[Gt.av,Sl.avS,hk,g1,lv]
 have q1:=oc (λa=>!(a.1==h.length) ||decide (a.2<R.length+2)) G;have q3:=hR (λa=>!(a.1==h.length) ||decide (a.2<R.length+2));have q63:=eJ a63 p63;have q64:=eJ a64 p64;have q65:=eJ a65 p65;rw[pd]at e1;rw[aj];generalize (mu K).code (.af (R.length+2) [4,10,11,14,15,63,64,65,82,83,84] ju)=F at *
 simp only[afE,afj,afw,es];simp[ju,KL,aa,c1,e1,Xi,k1,w1,w2,w3,r1,r2,q1,q3,p4,q63,q64,q65,hrt,lX]
theorem HY(gs pg sg:List Gt)(g:Gt)(hgs:gs=pg++g::sg)(hgl:gs.length<=1000)(hg:GtJ g)(hk:g.kids.l≠[])(G:List Gt)(hG:G.length<=100000)(cnt:Nat)(hc:cnt<=1000) :
  (mu K).code (.af (R.length+2) [4,10,11,14,15,63,64,65,82,83,84] ju) ⟨[(4,a4),(10,.own (h.length,1) (G.length+1)),(11,iV (e:Int)),(14,iV (d:Int)),(15,iV (cnt:Int)),(63,a63),(64,a64),(65,a65),(82,.lst (gs.map Gt.av)),(83,iV (gs.length:Int)),(84,iV (pg.length:Int))],(.box 34 false (.agg [.ay])::.arv 140 3 (rt::G.map Gt.av)::R)::h⟩ =
  (mu K).code (.af (R.length+2) [4,10,11,14,15,63,64,65,82,83,84] ju) ⟨[(4,a4),(10,.own (h.length,1) ((G++[bQ d e g]).length+1)),(11,iV (e:Int)),(14,iV (d:Int)),(15,iV (cnt:Int)),(63,a63),(64,a64),(65,a65),(82,.lst (gs.map Gt.av)),(83,iV (gs.length:Int)),(84,iV ((pg++[g]).length:Int))],(.box 34 false (.agg [.ay])::.arv 140 3 (rt::(G++[bQ d e g]).map Gt.av)::R)::h⟩:=by
 obtain⟨g1,g2,g3,g4,g5⟩:=hg;have hl:gs.length=pg.length+(sg.length+1):=by rw[hgs];simp
 have c1:((pg.length:Int)<(gs.length:Int))=True:=eq_true (by omega);have e1:=λ(q:IntKind)=>cG (sz:=3) (l:=gs.map Gt.av) (k:=q) (j:=(pg.length:Int)) (v:=g.av) (by omega) (by rw[hgs];simp) rfl
 have ek:g.kids.avS iV=.lst (g.kids.l.map iV):=by rw[Sl.avS,gu];simpa using hk
 have pd:g.av=.agg [iV g.need,.lst (g.kids.l.map iV),iV g.leaf]:=by rw[<-ek]
 have w2:=wrS (n:=pg.length) (by omega);have Xi:∀(T:List Blk),(mu K).fn 187 [.lst (g.kids.l.map iV)] (T::h)=some (.val (.own (h.length,T.length) g.kids.l.length) ((T++[.arr 3 1 false (g.kids.l.map iV)])::h)):=λT=>by
  cases hkl:g.kids.l with
  |nil=>exact absurd hkl hk
  |cons x r=>
   rw[hkl]at g2;simp only[Io]at g2;have:=aby (iV x) (r.map iV) (by simp;omega) (λy hy=>by
    simp only[afp,afG]at hy;rcases hy with rfl|⟨z,_,rfl⟩<;>rfl) T h
   simpa using this
 have qb:AV.dh (g.kids.l.map iV) (g.kids.l.map iV)=true:=by
  have:=ak _ aP g.kids;rw[ek]at this;simpa[AV.beq]using this
 have r1:(G.length+1+1)*40<=room:=by unfold room;omega
 have r2:G.length+1+1<=room:=by unfold room;omega
 have hk0:((g.kids.l.length:Int)=0)=False:=by
  refine eq_false λq=>hk ?_
  exact afJ (by omega)
 have es:(bQ d e g).av=.agg [iV g.need,.lst (g.kids.l.map λk=>iV (k+(d:Int))),iV 0]:=by
  unfold bQ;rw[if_neg hk];have:(⟨g.kids.nl,g.kids.l.map (·+(d:Int))⟩:Sl Int).avS iV=.lst (g.kids.l.map λk=>iV (k+(d:Int))):=by
   rw[Sl.avS,gu]
   ·simp[Function.comp_def]
   ·simpa using hk
  simp only[Gt.av,Gt.cs,this]
 have q1:=oc (λa=>!(a.1==h.length) ||decide (a.2<R.length+2)) G;have q3:=hR (λa=>!(a.1==h.length) ||decide (a.2<R.length+2));have q63:=eJ a63 p63;have q64:=eJ a64 p64;have q65:=eJ a65 p65;obtain⟨j3,k1,x4,x10,x11,x14,x15,x17,x18,x63,x64,x65,x82,x83,x84⟩:=Ez a4 (.own (h.length,1) (G.length+1)) (iV (e:Int)) (iV (cnt:Int)) (.ptr (h.length,R.length+2) 0) a63 a64 a65 (.lst (gs.map Gt.av)) (iV (gs.length:Int)) (iV (pg.length:Int))
  d g.kids.l g2 hd g3 (iV g.need) (iV 0) ⟨rfl,rfl⟩ (.box 140 false g.av) (.box 34 false (.agg [.ay])::.arv 140 3 (rt::G.map Gt.av)::R) h g.kids.l [] rfl
 rw[pd]at e1 k1;rw[aj];generalize (mu K).code (.af (R.length+2) [4,10,11,14,15,63,64,65,82,83,84] ju)=F at *
 simp only[afE,afj,afw,es];simp at k1;simp[ju,KL,aa,c1,e1,Xi,k1,x4,x10,x11,x14,x15,x17,x18,x63,x64,x65,x82,x83,x84,w2,r1,r2,q1,q3,p4,q63,q64,q65,hrt,lX,hk,qb]
theorem xS(gs:List Gt)(hgl:gs.length<=1000)(hg:∀g∈gs,GtJ g)(G0:List Gt)(hG:G0.length<=90000):∀(sg pg:List Gt),gs=pg++sg->∃j3,
  (mu K).code (.af (R.length+2) [4,10,11,14,15,63,64,65,82,83,84] ju) ⟨[(4,a4),(10,.own (h.length,1) ((G0++pg.map (bQ d e)).length+1)),(11,iV (e:Int)),(14,iV (d:Int)),(15,iV (lvG pg:Int)),(63,a63),(64,a64),(65,a65),(82,.lst (gs.map Gt.av)),(83,iV (gs.length:Int)),(84,iV (pg.length:Int))],(.box 34 false (.agg [.ay])::.arv 140 3 (rt::(G0++pg.map (bQ d e)).map Gt.av)::R)::h⟩ =
   some (.exit 4,⟨j3,(.box 34 false (.agg [.ay])::.arv 140 3 (rt::(G0++gs.map (bQ d e)).map Gt.av)::R)::h⟩) ∧
   get j3 4=a4∧get j3 10=.own (h.length,1) ((G0++gs.map (bQ d e)).length+1)∧get j3 11=iV (e:Int)∧get j3 15=iV (lvG gs:Int)∧get j3 63=a63∧get j3 64=a64∧get j3 65=a65
 | [],pg,hh=>by
  rw[afz]at hh;subst hh;rw[aj];generalize (mu K).code (.af (R.length+2) [4,10,11,14,15,63,64,65,82,83,84] ju)=F;simp[ju]
 |g::sg,pg,hh=>by
  have hlv:lvG pg<=1000:=by
   have:lvG pg<=pg.length:=ag0 _ _;have:gs.length=pg.length+(sg.length+1):=by rw[hh];simp
   omega
  have hp:pg.length<=1000:=by
   have:gs.length=pg.length+(sg.length+1):=by rw[hh];simp
   omega
  obtain⟨j3,ih,r⟩:=xS gs hgl hg G0 hG sg (pg++[g]) (by simp[hh]);refine⟨j3,?_,r⟩;rw[<-ih];have hgm:=hg g (by rw[hh];simp);have hGl:(G0++pg.map (bQ d e)).length<=100000:=by simp;omega
  rw[HX,show (pg++[g]).map (bQ d e)=pg.map (bQ d e)++[bQ d e g] by simp,<-List.append_assoc];by_cases c:g.kids.l=[]
  ·rw[if_pos c];exact JT a4 a63 a64 a65 p63 p64 p65 d e hd he R hR rt h p4 hrt hrc gs pg sg g hh hgl hgm c (G0++pg.map (bQ d e)) hGl (lvG pg) hlv
  ·rw[if_neg c];exact HY a4 a63 a64 a65 p63 p64 p65 d e hd he R hR rt h p4 hrt hrc gs pg sg g hh hgl hgm c (G0++pg.map (bQ d e)) hGl (lvG pg) hlv
end
theorem zY(f:Fm):∀fs:List Fm,Fm.sizes (fs++[f])=Fm.sizes fs+f.size
 | []=>by simp[Fm.sizes]
 |g::fs=>by simp only[afo,Fm.sizes,zY f fs];omega
theorem uY(f:Fm):∀fs:List Fm,Fm.cU (fs++[f])=Fm.cU fs+f.lvs
 | []=>by simp[Fm.cU]
 |g::fs=>by simp only[afo,Fm.cU,uY f fs];omega
theorem xU(f:Fm):∀(fs:List Fm) (b:Nat),fZ b (fs++[f])=fZ b fs++[((b+Fm.sizes fs:Nat):Int)]
 | [],b=>by simp[fZ,Fm.sizes]
 |g::fs,b=>by
  simp only[afo,fZ,xU f fs,Fm.sizes];rw[show b+g.size+Fm.sizes fs=b+(g.size+Fm.sizes fs) by omega]
theorem og(f:Fm)(hf:f.ok):∀(fs:List Fm) (b c:Nat),fF b c (fs++[f])=fF b c fs++(flF 0 0 f).map (bQ (b+Fm.sizes fs) (c+Fm.cU fs))
 | [],b,c=>by
  have:=Er b c f 0 0 hf;simp only[af1]at this;simp[fF,Fm.sizes,Fm.cU,this]
 |g::fs,b,c=>by
  simp only[afo,fF,og f hf fs,Fm.sizes,Fm.cU,afX];rw[show b+g.size+Fm.sizes fs=b+(g.size+Fm.sizes fs) by omega,show c+g.lvs+Fm.cU fs=c+(g.lvs+Fm.cU fs) by omega]
theorem HZ:∀(fs:List Fm) (b:Nat),∀k∈fZ b fs,0<=k∧k<=((b+Fm.sizes fs:Nat):Int)
 | [],_,k,h=>by simp[fZ]at h
 |f::fs,b,k,h=>by
  simp only[fZ,afp]at h;simp only[Fm.sizes];rcases h with rfl|h
  ·omega
  ·have:=HZ fs (b+f.size) k h;omega
mutual
theorem JU:∀(f:Fm) (b c:Nat),∀g∈flF b c f,g.kids.nl=true∧g.kids.l.length<=f.size∧(∀k∈g.kids.l,0<=k∧k<=((b+f.size:Nat):Int))∧0<=g.leaf∧g.leaf<=((c+f.lvs:Nat):Int)
 |.leaf,b,c,g,hg=>by
  simp only[flF,afO]at hg;subst hg;simp;omega
 |.gate j5 ks,b,c,g,hg=>by
  simp only[flF,afp]at hg;simp only[Fm.size,Fm.lvs];rcases hg with rfl|hg
  ·refine⟨rfl,?_,λk hk=>?_,Int.le_refl _,by simp only;omega⟩
   ·simp only[fT];have:=sO ks;omega
   ·have:=HZ ks (b+1) k hk;omega
  ·obtain⟨h1,h2,h3,h4,h5⟩:=LX ks (b+1) c g hg;exact⟨h1,by omega,λk hk=>by have:=h3 k hk;omega,h4,h5⟩
theorem LX:∀(fs:List Fm) (b c:Nat),∀g∈fF b c fs,g.kids.nl=true∧g.kids.l.length<=Fm.sizes fs∧(∀k∈g.kids.l,0<=k∧k<=((b+Fm.sizes fs:Nat):Int))∧0<=g.leaf∧g.leaf<=((c+Fm.cU fs:Nat):Int)
 | [],_,_,g,hg=>by simp[fF]at hg
 |f::fs,b,c,g,hg=>by
  simp only[fF,afR]at hg;simp only[Fm.sizes,Fm.cU];rcases hg with hg|hg
  ·obtain⟨h1,h2,h3,h4,h5⟩:=JU f b c g hg;exact⟨h1,by omega,λk hk=>by have:=h3 k hk;omega,h4,by omega⟩
  ·obtain⟨h1,h2,h3,h4,h5⟩:=LX fs (b+f.size) (c+f.lvs) g hg;exact⟨h1,by omega,λk hk=>by have:=h3 k hk;omega,h4,by omega⟩
end
theorem F5{f:Fm}(hs:f.size<=900):∀g∈flF 0 0 f,GtJ g:=λg hg=>by
 obtain⟨h1,h2,h3,h4,h5⟩:=JU f 0 0 g hg;have:=FU f;exact⟨h1,by omega,λk hk=>by have:=h3 k hk;omega,h4,by omega⟩
def fA(f:Fm):AV:=.agg [.lst ((flF 0 0 f).map Gt.av)]
theorem nW(f:Fm):(fA f).cells=[.lst ((flF 0 0 f).map Gt.av)]:=rfl
theorem Qi(f:Fm):(fA f).isAgg=true:=rfl
theorem xQ(p:Loc->Bool)(f:Fm):(fA f).aO p=true:=rfl
abbrev bx(f:Fm):Blk:=.box 34 false (fA f)
def FJ(j5:Int)(n:Nat):List Fm->List Blk
 | []=>[.box 34 false (.agg [.ay]),.arr 140 3 false [.agg [iV j5,.ay,iV 0]]]
 |f::r=>.box 34 false (.agg [.ay])::.arv 140 3 (.agg [iV j5,.own (n,3) (r.length+1),iV 0]::(fF 1 0 (f::r)).map Gt.av)::bx f::.arr 3 1 false ((fZ 1 (f::r)).map iV)::r.map bx
theorem Qj(p:Loc->Bool):∀r:List Fm,(r.map bx).all (Blk.aO p)=true
 | []=>rfl
 |f::r=>by
  have:=Qj p r;simp only[afj,af9,this,agA];rfl
section
variable(j5:Int)(fs:List Fm)(hfs:fs.length<=900)(hs:Fm.sizes fs<=900)(ho:Fm.oks fs)(h:Heap)
include hfs hs ho
theorem Qk(f:Fm)(sf:List Fm)(hh:fs=f::sf) :
  (mu K).code (.af 2 [4,10,11,63,64,65] jv) ⟨[(4,.ptr (h.length,0) 0),(10,.own (h.length,1) (1)),(11,iV 0),(63,.lst (fs.map fA)),(64,iV (fs.length:Int)),(65,iV 0)],FJ j5 h.length []::h⟩ =
  (mu K).code (.af 2 [4,10,11,63,64,65] jv) ⟨[(4,.ptr (h.length,0) 0),(10,.own (h.length,1) (f.size+1)),(11,iV (f.lvs:Int)),(63,.lst (fs.map fA)),(64,iV (fs.length:Int)),(65,iV 1)],FJ j5 h.length [f]::h⟩:=by
 have hl:fs.length=sf.length+1:=by rw[hh];simp
 have hsz:f.size+Fm.sizes sf=Fm.sizes fs:=by rw[hh];simp[Fm.sizes]
 have hok:f.ok:=by rw[hh]at ho;exact ho.1
 have hlv:=FU f;have c1:(0<fs.length)=True:=eq_true (by omega);have e1:=λ(q:IntKind)=>cG (sz:=1) (l:=fs.map fA) (k:=q) (j:=0) (v:=fA f) (by omega) (by rw[hh];simp) rfl
 have w1:IntKind.i64.wrap (f.lvs:Int)=(f.lvs:Int):=wrap64 (by omega) (by omega);have w0:IntKind.i64.wrap 1=1:=by decide
 have r1:(8:Nat)<=room:=by unfold room;omega
 have r2:(1:Nat)<=room:=by unfold room;omega
 have hlen:=gB f 0 0;obtain⟨j3,k2,x4,x10,x11,x15,x63,x64,x65⟩:=xS (.ptr (h.length,0) 0) (.lst (fs.map fA)) (iV (fs.length:Int)) (iV 0) rfl rfl rfl 1 0 (by omega) (by omega) [bx f,.arr 3 1 false [iV 1]] (λp=>rfl) (.agg [iV j5,.own (h.length,3) 1,iV 0]) h
  (by simp) (by simp) rfl (flF 0 0 f) (by omega) (F5 (by omega)) [] (by simp) (flF 0 0 f) [] rfl
 have es:fF 1 0 [f]=(flF 0 0 f).map (bQ 1 0):=by
  have:=og f hok [] 1 0;simpa[fF,Fm.sizes,Fm.cU]using this
 have el:lvG (flF 0 0 f)=f.lvs:=uX f 0 0 hok;have lz:lvG ([]:List Gt)=0:=rfl;rw[el]at x15;rw[aj];generalize (mu K).code (.af _ _ jv)=F at *
 simp only[FJ,es];simp[lz,hlen]at k2 x10;simp[jv,c1,e1,k2,x4,x10,x11,x15,x63,x64,x65,w1,nW,Qi,xQ,hlen,r1,r2,fZ,w0]
theorem Ql(f0:Fm)(r:List Fm)(f:Fm)(sf:List Fm)(hh:fs=(f0::r)++f::sf) :
  (mu K).code (.af 2 [4,10,11,63,64,65] jv) ⟨[(4,.ptr (h.length,0) 0),(10,.own (h.length,1) (Fm.sizes (f0::r)+1)),(11,iV (Fm.cU (f0::r):Int)),(63,.lst (fs.map fA)),(64,iV (fs.length:Int)),(65,iV ((f0::r).length:Int))],FJ j5 h.length (f0::r)::h⟩ =
  (mu K).code (.af 2 [4,10,11,63,64,65] jv) ⟨[(4,.ptr (h.length,0) 0),(10,.own (h.length,1) (Fm.sizes (f0::(r++[f]))+1)),(11,iV (Fm.cU (f0::(r++[f])):Int)),(63,.lst (fs.map fA)),(64,iV (fs.length:Int)),(65,iV ((f0::(r++[f])).length:Int))],FJ j5 h.length (f0::(r++[f]))::h⟩:=by
 have hl:fs.length=(f0::r).length+(sf.length+1):=by rw[hh];simp only[afr,Io]
 have hsz:Fm.sizes (f0::r)+(f.size+Fm.sizes sf)=Fm.sizes fs:=by
  rw[hh];have:∀(a b:List Fm),Fm.sizes (a++b)=Fm.sizes a+Fm.sizes b:=λa b=>by
   induction a with
   |nil=>simp[Fm.sizes]
   |cons x a ih=>simp only[afo,Fm.sizes,ih];omega
  rw[this];simp[Fm.sizes]
 have hok:f.ok:=Fm.jd.1 ho f (by rw[hh];simp);have hlv:=FU f;have aey:=AX (f0::r);have hn:=sO (f0::r);rw[show f0::(r++[f])=(f0::r)++[f] from rfl,zY,uY];simp only[afo,FJ];rw[show f0::(r++[f])=(f0::r)++[f] from rfl,og f hok,xU];have e1:fs[r.length+1]?=some f:=by rw[hh];simp
 have c2:(0<=(r.length:Int)+1)=True:=eq_true (by omega);have gl:(fF 1 0 (f0::r)).length=Fm.sizes (f0::r):=nZ _ _ _;have kl:(fZ 1 (f0::r)).length=r.length+1:=by rw[fT];rfl
 generalize hG:fF 1 0 (f0::r)=G at *
 generalize hK:fZ 1 (f0::r)=KS at *
 generalize hS:Fm.sizes (f0::r)=Z at *
 generalize hV:Fm.cU (f0::r)=V at *
 simp only[afr,Io,iO,afu]at *
 have c1:((r.length:Int)+1<(fs.length:Int))=True:=eq_true (by omega);have w0:IntKind.i64.wrap ((r.length:Int)+1+1)=(r.length:Int)+2:=by rw[wrap64 (by omega) (by omega)];omega
 have w1:IntKind.i64.wrap ((V:Int)+(f.lvs:Int))=(V:Int)+(f.lvs:Int):=wrap64 (by omega) (by omega);have r1:(r.length+1+1)*8<=room:=by unfold room;omega
 have r2:r.length+1+1<=room:=by unfold room;omega
 have hlen:=gB f 0 0;obtain⟨j3,k2,x4,x10,x11,x15,x63,x64,x65⟩:=xS (.ptr (h.length,0) 0) (.lst (fs.map fA)) (iV (fs.length:Int)) (iV ((r.length:Int)+1)) rfl rfl rfl (1+Z) (0+V) (by omega) (by omega)
  (bx f0::.arr 3 1 false (KS.map iV++[iV ((1+Z:Nat):Int)])::(r.map bx++[bx f])) (λp=>by simp only[af9,List.all_append,Qj,List.all_nil];rfl) (.agg [iV j5,.own (h.length,3) (r.length+1+1),iV 0]) h
  (by simp) (by simp) rfl (flF 0 0 f) (by omega) (F5 (by omega)) G (by omega) (flF 0 0 f) [] rfl
 have el:lvG (flF 0 0 f)=f.lvs:=uX f 0 0 hok;have lz:lvG ([]:List Gt)=0:=rfl;rw[el]at x15;have n1:((1+Z:Nat):Int)=(Z:Int)+1:=by omega
 have n2:1+Z=Z+1:=by omega
 rw[n1]at k2;rw[aj];generalize (mu K).code (.af _ _ jv)=F at *
 simp[lz,hlen,gl,n2,af5]at k2 x10;simp[jv,c1,c2,e1,k2,x4,x10,x11,x15,x63,x64,x65,w0,w1,nW,Qi,xQ,hlen,r1,r2,kl,gl,n2,af5]
theorem EA:∀(sf:List Fm) (f0:Fm) (r:List Fm),fs=(f0::r)++sf->∃j3,
  (mu K).code (.af 2 [4,10,11,63,64,65] jv) ⟨[(4,.ptr (h.length,0) 0),(10,.own (h.length,1) (Fm.sizes (f0::r)+1)),(11,iV (Fm.cU (f0::r):Int)),(63,.lst (fs.map fA)),(64,iV (fs.length:Int)),(65,iV ((f0::r).length:Int))],FJ j5 h.length (f0::r)::h⟩ =
   some (.exit 2,⟨j3,FJ j5 h.length fs::h⟩)∧get j3 4=.ptr (h.length,0) 0∧get j3 10=.own (h.length,1) (Fm.sizes fs+1)∧get j3 11=iV (Fm.cU fs:Int)
 | [],f0,r,hh=>by
  rw[afz]at hh;rw[aj];generalize (mu K).code _=F;rw[hh];simp[jv]
 |f::sf,f0,r,hh=>by
  obtain⟨j3,ih,x⟩:=EA sf f0 (r++[f]) (by rw[hh];simp);exact⟨j3,by rw[Ql j5 fs hfs hs ho h f0 r f sf hh];exact ih,x⟩
theorem JV(hne:fs≠[]):∃j3,
  (mu K).code (.af 2 [4,10,11,63,64,65] jv) ⟨[(4,.ptr (h.length,0) 0),(10,.own (h.length,1) (1)),(11,iV 0),(63,.lst (fs.map fA)),(64,iV (fs.length:Int)),(65,iV 0)],FJ j5 h.length []::h⟩ =
   some (.exit 2,⟨j3,FJ j5 h.length fs::h⟩)∧get j3 4=.ptr (h.length,0) 0∧get j3 10=.own (h.length,1) (Fm.sizes fs+1)∧get j3 11=iV (Fm.cU fs:Int):=by
 cases e:fs with
 |nil=>exact absurd e hne
 |cons f sf=>
  obtain⟨j3,k,x⟩:=EA j5 fs hfs hs ho h sf f [] (by simp[e]);refine⟨j3,?_,by rw[<-e];exact x⟩;rw[<-e,Qk j5 fs hfs hs ho h f sf e];simpa[Fm.sizes,Fm.cU]using k
end
end Go.Ab.Pn
namespace Go.Ab.Pn
open Go.Ab.Pol
theorem Qm(g:Gt)(h:Heap):Cz g.cs h=some (g.cs,h):=by
 obtain⟨j5,⟨nl,l⟩,leaf⟩:=g;cases l with
 |nil=>cases nl<;>simp[Gt.cs,Sl.avS,lv]
 |cons k l=>simp[Gt.cs,Sl.avS]
theorem CA(h:Heap):∀l:List Gt,tK (l.map Gt.av) h=some (l.map Gt.av,h)
 | []=>rfl
 |g::l=>by
  have:=CA h l;have k:CD g.av h=some (g.av,h):=by
   show CD (.agg g.cs) h=_;simp only[CD,Qm]
  simp only[afj,tK,k,this]
theorem JW(f:Fm):fA f=fAV ⟨true,flF 0 0 f⟩:=by
 have:(flF 0 0 f).map Gt.av≠[]:=λe=>by
  have h1:=gB f 0 0;have h2:=f.size_pos;have h3:((flF 0 0 f).map Gt.av).length=0:=by rw[e];rfl
  rw[afv]at h3;omega
 unfold fA fAV Sl.avS;rw[gu true this]
theorem xG{f:Fm}(hs:f.size<=512):okG (flF 0 0 f):=by
 refine⟨by rw[gB];omega,λg hg=>?_⟩;have:=(JU f 0 0 g hg).2.1;omega
theorem Xj{f:Fm}(ho:f.ok)(hs:f.size<=512)(hl:f.lvs<=256)(h:Heap):(mu K).fn 79 [fA f] h=some (.val (.tup [iV (f.lvs:Int),.bool true]) h):=by
 obtain⟨n,k,e⟩:=f79 ⟨true,flF 0 0 f⟩ (xG hs) h;have q:=LO ho hl;rw[JW,k,e _ q];simp only[q];rfl
section
variable(j5:Int)(fs:List Fm)(hfs:fs.length<=900)(hok:∀f∈fs,f.ok∧f.size<=512∧f.lvs<=256)(h:Heap)
include hfs hok
theorem EB : ∀(sf pf : List Fm), fs = pf ++ sf -> ∃j3, (mu K).code (.af 1 [0, 1, 4, 24, 25, 26] xy) ⟨[(0, iV j5), (1, .lst (fs.map fA)), (4, .ptr (h.length, 0) 0), (24, .lst (fs.map fA)), (25, iV (fs.length : Int)), (26, iV (pf.length : Int))], [.box 34 false (.agg [.ay])]::h⟩ =
      some (.exit 0, ⟨j3, [.box 34 false (.agg [.ay])]::h⟩)∧get j3 0=iV j5∧get j3 1=.lst (fs.map fA)∧get j3 4=.ptr (h.length, 0) 0
  | [], pf, hh=>by
    rw[afz]at hh;rw[aj];generalize (mu K).code _=F;rw[hh];simp[xy]
  |f::sf, pf, hh=>by
    obtain⟨j3, ih, x⟩:=EB sf (pf++[f]) (by simp[hh]);refine⟨j3, ?_, x⟩;rw[<-ih];obtain⟨o1, o2, o3⟩:=hok f (by rw[hh];simp);have hl:fs.length=pf.length+(sf.length+1):=by rw[hh];simp
    have c1:(pf.length<fs.length)=True:=eq_true (by omega);have e1:∀hh, fs[pf.length]'hh=f:=λ_=>by
      have q:fs[pf.length]?=some f:=by rw[hh];simp
      exact (aft.1 q).2
    have k79:=Xj o1 o2 o3;have w1:=wrS (n:=pf.length) (by omega);have hp:=f.size_pos;have hlen:=gB f 0 0;have n0:(f.size=0)=False:=eq_false (by omega);have n1:(512<f.size)=False:=eq_false (by omega);have n1':((512:Int)<(f.size:Int))=False:=eq_false (by omega);have hne:(flF 0 0 f=[])=False:=eq_false λe=>by rw[e]at hlen;simp at hlen;omega
    rw[aj];generalize (mu K).code _=F;have fa:(fA f)=.agg [.lst ((flF 0 0 f).map Gt.av)]:=rfl;rw[fa]at k79;simp[xy, KL, aa, c1, e1, fa, k79, w1, hlen, n0, n1']
end
theorem f143(j5:Int)(fs:List Fm)(h1:1<=j5)(h2:j5<=(fs.length:Int))(hok:∀f∈fs,f.ok)(hs:Fm.sizes fs+1<=512)(hl:Fm.cU fs<=256)(h:Heap) :
  (mu K).fn 143 [iV j5,.lst (fs.map fA)] h=some (.val (.tup [fA (.gate j5 fs),iV 0]) h):=by
 have hn:=sO fs;have hne:fs≠[]:=λe=>by rw[e]at h2;simp at h2;omega
 have Xk:∀f∈fs,f.ok∧f.size<=512∧f.lvs<=256:=λf hf=>by
  obtain⟨a,b,e⟩:=List.append_of_mem hf;have e1:Fm.sizes fs=Fm.sizes a+(f.size+Fm.sizes b):=by
   rw[e];clear e hf
   induction a with
   |nil=>simp[Fm.sizes]
   |cons x a ih=>simp only[afo,Fm.sizes,ih];omega
  have e2:Fm.cU fs=Fm.cU a+(f.lvs+Fm.cU b):=by
   rw[e];clear e1 e hf
   induction a with
   |nil=>simp[Fm.cU]
   |cons x a ih=>simp only[afo,Fm.cU,ih];omega
  exact⟨hok f hf,by omega,by omega⟩
 obtain⟨JG,k0,x0,x1,x4⟩:=EB j5 fs (by omega) Xk h fs [] rfl;obtain⟨FR,k3,y4,y10,y11⟩:=JV j5 fs (by omega) (by omega) (Fm.jd.2 hok) h hne;have n0:(fs=[])=False:=eq_false hne;have nl:(fs.length=0)=False:=eq_false λe=>hne (afJ e)
 have c1:(j5<1)=False:=eq_false (by omega);have c2:((fs.length:Int)<j5)=False:=eq_false (by omega);have c3:((512:Int)<(Fm.sizes fs:Int)+1)=False:=eq_false (by omega);have c4:((256:Int)<(Fm.cU fs:Int))=False:=eq_false (by omega);have c5:(256<Fm.cU fs)=False:=eq_false (by omega);have ek:∀l:List Int,l≠[]->(⟨true,l⟩:Sl Int).avS iV=.lst (l.map iV):=λl hl=>by rw[Sl.avS,gu];simpa using hl
 have es:fA (.gate j5 fs)=.agg [.lst (.agg [iV j5,.lst ((fZ 1 fs).map iV),iV 0]::(fF 1 0 fs).map Gt.av)]:=by
  unfold fA;simp only[flF,afj,Gt.av,Gt.cs];rw[ek];intro e;have:=fT fs 1;rw[e]at this;exact hne (afJ this.symm)
 have gl:(fF 1 0 fs).length=Fm.sizes fs:=nZ _ _ _;have vg:=λH=>CA H (fF 1 0 fs)
 rw[es];obtain⟨f0,r,hf⟩:∃f0 r,fs=f0::r:=by
  cases e:fs with
  |nil=>exact absurd e hne
  |cons a b=>exact⟨a,b,rfl⟩
 have sl:(fZ 1 fs).length=r.length+1:=by rw[fT,hf];rfl
 have fj:FJ j5 h.length fs=.box 34 false (.agg [.ay])::.arv 140 3 (.agg [iV j5,.own (h.length,3) (r.length+1),iV 0]::(fF 1 0 fs).map Gt.av)::bx f0::.arr 3 1 false ((fZ 1 fs).map iV)::r.map bx:=by rw[hf];rfl
 rw[fj]at k3;simp only[FJ]at k3;rw[aC (KX _ _ _) Zx rfl (by simp[VL])];generalize fF 1 0 fs=G at *
 generalize fZ 1 fs=KS at *
 simp at k0;simp[VL,nl,k0,x0,x1,x4,k3,y4,y10,y11,c1,c2,c3,c4,gl,vg,sl]
theorem f90(j5:Int)(fs:List Fm)(h1:1<=j5)(h2:j5<=(fs.length:Int))(hok:∀f∈fs,f.ok)(hs:Fm.sizes fs+1<=512)(hl:Fm.cU fs<=256)(h:Heap) :
  (mu K).fn 90 [iV j5,.lst (fs.map fA)] h=some (.val (fA (.gate j5 fs)) h):=by
 have k:=f143 j5 fs h1 h2 hok hs hl;have fa:fA (.gate j5 fs)=.agg [.lst ((flF 0 0 (.gate j5 fs)).map Gt.av)]:=rfl;rw[aC (KX _ _ _) adU rfl (by simp[c90])];rw[fa]at k⊢;simp[c90,KL,aa,k]
theorem AR(p:Loc->Bool)(f:Fm)(h:Heap):(fA f).view p h=some (fA f,h):=rfl
def fmB:List Fm->Blk
 | []=>.arr 0 0 false []
 |f::r=>.arr 34 1 false ((f::r).map fA)
theorem uT(l:List Fm):∃t z,fmB l=.arr t z false (l.map fA)∧(z=0∨t=34∧z=1):=by
 cases l with
 |nil=>exact⟨0,0,rfl,.inl rfl⟩
 |cons i s=>exact⟨34,1,rfl,.inr ⟨rfl,rfl⟩⟩
theorem Ci(l:List Fm)(x:Fm):fmB (l++[x])=.arr 34 1 false (l.map fA++[fA x]):=by
 cases l with
 |nil=>rfl
 |cons j s=>simp[fmB]
theorem sM(c:Cd)(s:List Cd):∀(j4:List Cd) (b:Nat),(starts b (j4++c::s))[j4.length]?=some ((b+Cd.sizes j4:Nat):Int)
 | [],b=>by simp[starts,Cd.sizes]
 |d::j4,b=>by
  simp only[afo,starts,Io,agM,sM c s j4,Cd.sizes];rw[show b+d.size+Cd.sizes j4=b+(d.size+Cd.sizes j4) by omega]
section
variable(j0:List Rf)(fd:Nd->Pol.Fd)(b:Loc)(H:List Pt->Heap)(N:Nat)(hN:∀A,(H A).length=N)
include hN
theorem H6(b0:Nat)(nv:AV)(ks:List Cd)(hk:ks.length<=1000)(hz:b0+1+Cd.sizes ks<=1000000)
  (A:List Pt) (k89:∀j4 c s,ks=j4++c::s->∀(Fr:List Blk),(mu K).fn 89 [.ptr b 0,iV ((b0+1+Cd.sizes j4:Nat):Int)] (Fr::H (A++bF j0 fd j4))=some (.val (fA (fmC j0 fd c)) (Fr::H (A++bF j0 fd j4++kQ j0 fd c)))) :
  ∀(sk pk:List Cd),ks=pk++sk->∃j3,
   (mu K).code (.af 3 [0,4,5,6,21,22,23] D7) ⟨[(0,.ptr b 0),(4,.ptr (N,0) 0),(5,.ptr (N,1) 0),(6,.own (N,2) pk.length),(21,.lst ((starts (b0+1) ks).map iV)),(22,iV (ks.length:Int)),(23,iV (pk.length:Int))],
    [.box 34 false (.agg [.ay]),.box 90 false nv,fmB (bZ j0 fd pk)]::H (A++bF j0 fd pk)⟩ =
   some (.exit 0,⟨j3,[.box 34 false (.agg [.ay]),.box 90 false nv,fmB (bZ j0 fd ks)]::H (A++bF j0 fd ks)⟩) ∧
   get j3 4=.ptr (N,0) 0∧get j3 5=.ptr (N,1) 0∧get j3 6=.own (N,2) ks.length
 | [],pk,hh=>by
  rw[afz]at hh;rw[aj];generalize (mu K).code _=F;rw[hh];simp[D7]
 |c::sk,pk,hh=>by
  obtain⟨j3,ih,x⟩:=H6 b0 nv ks hk hz A k89 sk (pk++[c]) (by simp[hh]);refine⟨j3,?_,x⟩;rw[<-ih];have hl:ks.length=pk.length+(sk.length+1):=by rw[hh];simp
  have c1:(pk.length<ks.length)=True:=eq_true (by omega);have e1:∀(q:IntKind),iaF 1 (.lst ((starts (b0+1) ks).map iV)) (.int q (pk.length:Int))=some (.eF (iV ((b0+1+Cd.sizes pk:Nat):Int)) 0):=λq=>
   cG (by omega) (by
    have:=sM c sk pk (b0+1);rw[<-hh]at this;simp[this]) rfl
  have w1:=wrS (n:=pk.length) (by omega);have k:=k89 pk c sk hh;simp only[show ((b0+1+Cd.sizes pk:Nat):Int)=(b0:Int)+1+(Cd.sizes pk:Int) by omega]at k;have r1:(pk.length+1)*24<=room:=by unfold room;omega
  have r2:pk.length+1<=room:=by unfold room;omega
  have ep:∀(cs:List Cd),bF j0 fd (cs++[c])=bF j0 fd cs++kQ j0 fd c:=λcs=>by
   rw[iA,iA];simp
  have ef:bZ j0 fd (pk++[c])=bZ j0 fd pk++[fmC j0 fd c]:=by
   rw[lT,lT];simp
  have lf:(bZ j0 fd pk).length=pk.length:=fR _ _ _;rw[ep,ef,Ci,<-List.append_assoc];obtain⟨ot,oz,ho,hz2⟩:=uT (bZ j0 fd pk);rw[ho];generalize bZ j0 fd pk=afi at *
  generalize A++bF j0 fd pk=A1 at *
  have n1:=hN A1;have n2:=hN (A1++kQ j0 fd c);rw[aj];generalize (mu K).code _=F;simp only[afr,Io,iO,afu];rw[show ((pk.length+1:Nat):Int)=(pk.length:Int)+1 by omega];simp[D7,KL,aa,c1,e1,k,w1,n2,lf,r1,r2,hz2,nW,xQ,AR]
end
theorem rB{ns:List Nd}:∀(j4:List Cd) (b0:Nat) (c:Cd) (s:List Cd),At ns b0 (gJ b0 (j4++c::s))->At ns (b0+Cd.sizes j4) (flat (b0+Cd.sizes j4) c)
 | [],b0,c,s,h=>by
  have:=(JX h).1;simpa[Cd.sizes]using this
 |d::j4,b0,c,s,h=>by
  have h2:=(JX h).2;rw[lY]at h2;have:=rB j4 (b0+d.size) c s h2;rwa[show b0+d.size+Cd.sizes j4=b0+Cd.sizes (d::j4) by simp only[Cd.sizes];omega]at this
section
variable{us:List Us}{l:List Sc}(nodes:Sl Nd)(j0:List Rf)(Q:Nd->Prop)(hQ:∀v,Q v->Q (aM v))(b am aL sL:Loc)(D C:AV)
theorem fC(h:Heap)(m:Pls nodes (au us l) j0 Q h b am aL sL)(F:List Blk)(A S:List Pt):F::bG nodes h b am aL sL D C A S=bG nodes (F::h) b am aL sL D C A S:=by
 have h1:=eD m.db;have h2:=eD m.da;have h3:=eD m.ds;have n1:¬ b.1=h.length:=by omega
 have n2:¬ aL.1=h.length:=by omega
 have n3:¬ sL.1=h.length:=by omega
 unfold bG;simp[aQ,n1,n2,n3,bp]
theorem Pls.push(h:Heap)(m:Pls nodes (au us l) j0 Q h b am aL sL)(F:List Blk):Pls nodes (au us l) j0 Q (F::h) b am aL sL:=by
 obtain⟨hf,hl,db,da,ds,ba,bs,asn,lea,les,es,e1,e2,e3,e4,e5⟩:=m;refine⟨hf,hl,kZ db,kZ da,kZ ds,ba,bs,asn,lea,les,es,dA F e1,e2,e3,e4,λx hx=>?_⟩;obtain⟨c,ws,c1,r⟩:=e5 x hx;exact⟨c,ws,dA F c1,r⟩
theorem wM:fA .leaf=.agg [.lst [.agg [iV 0,.ay,iV 0]]]:=rfl
theorem Qn{k:Int}(hk:k=6∨k=7)(P:List Pt)(hP:P.length=1∨P.length=2)(b0:Nat)(n:Nd)(hnk:n.k=k)(hn:nodes.l[b0]?=some n)(h:Heap)(m:Pls nodes (au us l) j0 Q h b am aL sL)(A S:List Pt)(hA:A.length<=100000)
  (xN:∀F:List Blk,(mu K).fn 141 [.ptr b 0,n.av] (F::bG nodes h b am aL sL D C A S)=some (.val (.lst (P.map Pt.av)) (F::bG nodes h b am aL sL D C A S))) :
  (mu K).fn 89 [.ptr b 0,iV (b0:Int)] (bG nodes h b am aL sL D C A S)=some (.val (fA (fmA P)) (bG nodes h b am aL sL D C (A++P) S)):=by
 obtain⟨n1,n2,n3,n4,n5,n6⟩:=sU nodes j0 Q h b am aL sL D C m A S;have gb:=rH nodes (au us l) j0 Q h b am aL sL D C m A S;have gs:=Xf nodes (au us l) j0 Q h b am aL sL D C m A S;have st:=NS nodes (au us l) j0 Q h b am aL sL D C m A (A++P) S;have hia:=iaP Nd.av 6 nodes b0 n (by simpa using hn);have r1:(A.length+P.length)*40<=room:=by unfold room;omega
 have r2:A.length+P.length<=room:=by unfold room;omega
 obtain⟨ot,oz,ho,hz⟩:=jD A;have ho2:ptB (A++P)=.arr 56 5 false (A.map Pt.av++P.map Pt.av):=by
  cases e:A++P with
  |nil=>
   have:=congrArg List.length e;simp only[afr,iO]at this;omega
  |cons x r=>
   simp only[ptB];rw[<-e,afE]
 have k5:(n.k=5)=False:=eq_false (by omega);have k90:=f90 1 [.leaf,.leaf] (by decide) (by decide) (by simp[Fm.ok]) (by decide) (by decide);simp only[afj,afw,wM]at k90;have lN:=f142;have lea:=m.lea;have sz:sized 5 (P.map Pt.av)=true:=by simp[sized]
 have ob:=λX=>cW (h:=bG nodes h b am aL sL D C A S) (agh m.ba) X
 have pl:(bG nodes h b am aL sL D C (A++P) S).length=(bG nodes h b am aL sL D C A S).length:=by rw[fB,fB]
 generalize hH:bG nodes h b am aL sL D C A S=H at *
 simp only[mkB]at gb st;rw[ho]at gs;rw[ho2,afr]at st;rw[aC (KX _ _ _) Y5 rfl (by simp[c89])];unfold fmA;have fg:fA (.gate 1 [.leaf,.leaf])=.agg [.lst ((flF 0 0 (.gate 1 [.leaf,.leaf])).map Gt.av)]:=rfl;rcases hP with hP|hP
 ·rw[if_pos hP,wM];rw[hP]at r1 r2 st;simp[c89,KL,aa,hget,aQ,n1,n2,gb,hia,k5,xN,gs,ob,st,r1,r2,hz,hP,lN,lea,pl]
 ·have hP1:¬ P.length=1:=by omega
  rw[if_neg hP1,fg];rw[hP]at r1 r2 st;rw[fg]at k90;simp[c89,KL,aa,hget,aQ,n1,n2,gb,hia,k5,xN,gs,ob,st,r1,r2,hz,hP,lN,lea,k90,pl]
theorem Qo(j5:Int)(ks:List Cd)(h1:1<=j5)(h2:j5<=(ks.length:Int))(hok:∀f∈bZ j0 (au us l) ks,f.ok)(hs:Fm.sizes (bZ j0 (au us l) ks)+1<=512)(hl:Fm.cU (bZ j0 (au us l) ks)<=256)
  (b0:Nat) (hn:nodes.l[b0]?=some (cj b0 j5 ks)) (hz:b0+1+Cd.sizes ks<=100000) (h:Heap) (m:Pls nodes (au us l) j0 Q h b am aL sL) (A S:List Pt)
  (k89:∀j4 c s,ks=j4++c::s->∀(Fr:List Blk),(mu K).fn 89 [.ptr b 0,iV ((b0+1+Cd.sizes j4:Nat):Int)] (Fr::bG nodes h b am aL sL D C (A++bF j0 (au us l) j4) S)=some (.val (fA (fmC j0 (au us l) c)) (Fr::bG nodes h b am aL sL D C (A++bF j0 (au us l) j4++kQ j0 (au us l) c) S))) :
  (mu K).fn 89 [.ptr b 0,iV (b0:Int)] (bG nodes h b am aL sL D C A S)=some (.val (fA (.gate j5 (bZ j0 (au us l) ks))) (bG nodes h b am aL sL D C (A++bF j0 (au us l) ks) S)):=by
 have hlen:=m.len;have hb0:b0<nodes.l.length:=(aft.1 hn).1;have hkl:ks.length<=1000:=by
  have:=sO (bZ j0 (au us l) ks);rw[fR]at this;omega
 have hne:ks≠[]:=λe=>by rw[e]at h2;simp at h2;omega
 obtain⟨j3,k1,x4,x5,x6⟩:=H6 j0 (au us l) b (λA=>bG nodes h b am aL sL D C A S) h.length (λA=>fB nodes h b am aL sL D C A S) b0 (cj b0 j5 ks).av ks hkl (by omega) A k89 ks [] rfl;obtain⟨n1,n2,n3,n4,n5,n6⟩:=sU nodes j0 Q h b am aL sL D C m A S;have gb:=rH nodes (au us l) j0 Q h b am aL sL D C m A S;have hia:=iaP Nd.av 6 nodes b0 (cj b0 j5 ks) (by simpa using hn);have k90:=f90 j5 (bZ j0 (au us l) ks) h1 (by rw[fR];exact h2) hok hs hl;have ek:(cj b0 j5 ks).kids.avS iV=.lst ((starts (b0+1) ks).map iV):=by
  simp only[cj,Sl.avS];rw[gu];intro e;have:=congrArg List.length e;rw[afv,bJ]at this;exact hne (afJ this)
 have pd:(cj b0 j5 ks).av=.agg [iV 5,iV j5,.str [],.str [],.lst ((starts (b0+1) ks).map iV),iV 0]:=by
  show AV.agg [iV 5,iV j5,.str [],.str [],(cj b0 j5 ks).kids.avS iV,iV 0]=_;rw[ek]
 have sl:(starts (b0+1) ks).length=ks.length:=bJ _ _;have pl:(bG nodes h b am aL sL D C A S).length=h.length:=fB nodes h b am aL sL D C A S;have pl2:(bG nodes h b am aL sL D C (A++bF j0 (au us l) ks) S).length=h.length:=fB nodes h b am aL sL D C _ S;obtain⟨ot,oz,ho,hz2⟩:=uT (bZ j0 (au us l) ks);have lf:(bZ j0 (au us l) ks).length=ks.length:=fR _ _ _;have e0:bF j0 (au us l) []=[]:=rfl;have e1:bZ j0 (au us l) []=[]:=rfl;have fg:fA (.gate j5 (bZ j0 (au us l) ks))=.agg [.lst ((flF 0 0 (.gate j5 (bZ j0 (au us l) ks))).map Gt.av)]:=rfl;rw[ho,pd]at k1;rw[pd]at hia;rw[fg]at k90⊢;simp only[e0,e1,afz,fmB,iO]at k1;simp only[mkB]at gb;rw[pl]at n1 n4;generalize hH:bG nodes h b am aL sL D C A S=H at *
 generalize bG nodes h b am aL sL D C (A++bF j0 (au us l) ks) S=H2 at *
 rw[aC (KX _ _ _) Y5 rfl (by simp[c89])];simp at k1;simp[c89,KL,aa,hget,aQ,n1,pl,pl2,gb,hia,k1,x4,x5,x6,k90,sl,lf]
include hQ
mutual
theorem f89:∀(c:Cd) (b0:Nat),NF us l Q c->At nodes.l b0 (flat b0 c)->c.size<=380->b0+c.size<=1000->∀(h:Heap),Pls nodes (au us l) j0 Q h b am aL sL->∀(A S:List Pt),A.length+c.size<=90000 ->
  (mu K).fn 89 [.ptr b 0,iV (b0:Int)] (bG nodes h b am aL sL D C A S)=some (.val (fA (fmC j0 (au us l) c)) (bG nodes h b am aL sL D C (A++kQ j0 (au us l) c) S))
 |.atom k num vs,b0,hc,hat,hz,hb,h,m,A,S,hA=>by
  obtain⟨x,y,r,_,kx,qx,qy,h7,h6,h67,hp⟩:=jT (j0:=j0) m.hf hc;obtain⟨a0,a1⟩:=gA hat;refine Qn nodes j0 Q b am aL sL D C h67 (iW j0 (au us l) k num vs) hp.len b0 (br b0 k num vs.length) rfl a0 h m A S (by omega) λF=>?_
  exact f141 nodes j0 Q hQ (F::bG nodes h b am aL sL D C A S) b ((LW nodes (au us l) j0 Q h b am aL sL D C m A S).push F) hc b0 λj v hv=>a1 j (aM v) (by rw[afy,hv];rfl)
 |.gate j5 ks,b0,hc,hat,hz,hb,h,m,A,S,hA=>by
  obtain⟨c1,c2,c3,c4⟩:=hc;obtain⟨a0,a1⟩:=gA hat;have hk:∀c∈ks,NF us l Q c:=λc hc=>(eK.1 c4 c hc).1
  obtain⟨o1,o2,o3⟩:=kP (j0:=j0) m.hf ks hk;simp only[Cd.size]at hz hb hA;have hpl:=eI j0 (au us l) ks;refine Qo nodes j0 Q b am aL sL D C j5 ks c2 c3 (Fm.jd.1 o1) (by omega) (by omega) b0 a0 (by omega) h m A S λj4 c s hh Fr=>?_
  have hsz:Cd.sizes ks=Cd.sizes j4+(c.size+Cd.sizes s):=by
   rw[hh,eH];simp[Cd.sizes]
  have hp:=eI j0 (au us l) j4;rw[fC nodes j0 Q b am aL sL D C h m,fC nodes j0 Q b am aL sL D C h m];refine abA ks c (by rw[hh];simp) (b0+1+Cd.sizes j4) (hk c (by rw[hh];simp)) ?_ (by omega) (by omega) (Fr::h) (Pls.push nodes j0 Q b am aL sL h m Fr) _ S (by rw[afr];omega);have a2:=a1;rw[hh]at a2;exact rB j4 (b0+1) c s a2
theorem abA:∀(cs:List Cd),∀c∈cs,∀(b0:Nat),NF us l Q c->At nodes.l b0 (flat b0 c)->c.size<=380->b0+c.size<=1000->∀(h:Heap),Pls nodes (au us l) j0 Q h b am aL sL->∀(A S:List Pt),A.length+c.size<=90000 ->
  (mu K).fn 89 [.ptr b 0,iV (b0:Int)] (bG nodes h b am aL sL D C A S)=some (.val (fA (fmC j0 (au us l) c)) (bG nodes h b am aL sL D C (A++kQ j0 (au us l) c) S))
 | [],c,hc,_,_,_,_,_,_,_,_,_,_=>by cases hc
 |d::cs,c,hc,b0,h1,h2,h3,h4,h,m,A,S,h5=>by
  rcases afp.1 hc with e|hc
  ·rw[e]at h1 h2 h3 h4 h5⊢;exact f89 d b0 h1 h2 h3 h4 h m A S h5
  ·exact abA cs c hc b0 h1 h2 h3 h4 h m A S h5
end
end
