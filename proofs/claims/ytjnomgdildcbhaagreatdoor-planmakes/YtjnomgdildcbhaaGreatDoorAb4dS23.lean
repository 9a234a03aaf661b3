/-
  The reference's maker: the atoms of a condition.
-/
import Derived.Test.YtjnomgdildcbhaaGreatDoorAb4dS21
import Derived.Test.YtjnomgdildcbhaaGreatDoorAb4dP16
set_option linter.all false
set_option maxRecDepth 100000
set_option maxHeartbeats 4000000
namespace Go.Ab.Pn
open Go.Ab.Pol
theorem Qh:c98.body=.code (.seq K7 (.seq K8 (.seq K9 (.seq La (.seq Lb (.seq vP (.seq BM (.seq Lc (.seq Ld (.seq Le (.seq lD (.seq tV (.seq xp (.seq xq (.seq xu (.seq xw xx)))))))))))))))):=rfl
structure RM (q:Po)(l:Sl Sc)(j0:List Rf)(R:List AV)(h:Heap)(b:Loc):Prop where
 hq:Sz q
 hl:okL l
 hr:bz q l.l=0
 rl:j0.length<=1000000
 hf:∀n,FdW (au q.uses.l l.l n)
 hb:hget h b=some (mkR q l j0 R)
theorem RM.push{q:Po}{l:Sl Sc}{j0:List Rf}{R:List AV}{h:Heap}{b:Loc}(m:RM q l j0 R h b)(F:List Blk):RM q l j0 R (F::h) b:=
 ⟨m.hq,m.hl,m.hr,m.rl,m.hf,dA F m.hb⟩
def E98(j3:Env)(b:Loc)(n:Nat)(a:Int):Prop:=get j3 0=.ptr b 0∧get j3 5=.ptr (n,0) 0∧get j3 6=.ptr (n,1) 0∧get j3 7=.ptr (n,2) 0∧get j3 8=iV a∧get j3 9=.ptr (n,3) 0
def G98(j3:Env)(n:Nat)(a b d lo hi:Int):Prop:=get j3 5=.ptr (n,0) 0∧get j3 8=iV a∧get j3 11=iV b∧get j3 13=iV d∧get j3 14=iV lo∧get j3 15=iV hi
section
variable(q:Po)(l:Sl Sc)(j0:List Rf)(R:List AV)(h:Heap)(b:Loc)(m:RM q l j0 R h b)
include m
theorem Vc(at_ i j:Nat)(r:List AV)(n x y:Nd)(hk:n.kids.avS iV=.lst (iV (i:Int)::iV (j:Int)::r))(hn:q.nodes.l[at_]?=some n)(hx:q.nodes.l[i]?=some x)(hy:q.nodes.l[j]?=some y) :
  ∃j3',evC K (mu K) (.seq K7 (.seq K8 (.seq K9 (.seq La Lb)))) ⟨cI 0 [.ptr b 0,iV (at_:Int)],[]::h⟩ =
   some (.norm,⟨j3',[.box 90 false n.av,.box 90 false x.av,.box 90 false y.av,.box 50 false (au q.uses.l l.l x).av]::h⟩)∧E98 j3' b h.length (ixR j0 x):=by
 obtain⟨ne,ne2⟩:=jq m.hb;have hb:=m.hb;have q3:=ak _ bX q.nodes;have qk:=ak _ aP n.kids;have qx:=ak _ aP x.kids;have qy:=ak _ aP y.kids;have qw:=ak _ bD (au q.uses.l l.l x).words;rw[hk]at qk;have qr:AV.dh r r=true:=by simpa[AV.beq,AV.dh]using qk
 have i1:=iaP Nd.av 6 q.nodes at_ n (by simpa using hn);have i2:=iaP Nd.av 6 q.nodes i x (by simpa using hx);have i3:=iaP Nd.av 6 q.nodes j y (by simpa using hy);have W5:=λF=>f156 q l j0 R b x (F::h) m.rl (dA F hb)
 have W6:=λF=>f157 q m.hq l m.hl j0 R b x (F::h) (dA F hb) m.hr
 generalize au q.uses.l l.l x=f at *
 simp[K7,K8,K9,La,Lb,E98,KL,aa,hget,hb,hk,ne2,i1,i2,i3,W5,W6,q3,qx,qy,qr,AV.beq,AV.dh]
theorem W7(i j k:Nat)(n x y z:Nd)(hk:n.kids.avS iV=.lst [iV (i:Int),iV (j:Int),iV (k:Int)])(h7:n.k=7)(hz:q.nodes.l[k]?=some z)
  (hyn:y.k=10->-1099511627776<=y.num∧y.num<=1099511627776) (hzn:z.k=10->-1099511627776<=z.num∧z.num<=1099511627776) (j3:Env) (he:E98 j3 b h.length (ixR j0 x)) (r:CC) :
  goF c98.res (evC K (mu K) (.seq vP r) ⟨j3,[.box 90 false n.av,.box 90 false x.av,.box 90 false y.av,.box 50 false (au q.uses.l l.l x).av]::h⟩) =
   some (.val (.lst [(⟨2,(ixR j0 x:Int),0,dM (au q.uses.l l.l x) y,dM (au q.uses.l l.l x) z⟩:Pt).av]) h):=by
 obtain⟨e0,e5,e6,e7,e8,e9⟩:=he;obtain⟨ne,ne2⟩:=jq m.hb;have hb:=m.hb;have q3:=ak _ bX q.nodes;have qz:=ak _ aP z.kids;have qy:=ak _ aP y.kids;have hf:=m.hf x;generalize au q.uses.l l.l x=f at *
 have qw:=ak _ bD f.words;obtain⟨_,w1,w2,w3,w4⟩:=hf;have ky:=λh=>f158 f y h (by omega) (λe=>by have:=hyn e;omega)
 have kz:=λh=>f158 f z h (by omega) (λe=>by have:=hzn e;omega)
 have i3:=λ(k':IntKind)=>cK (av:=Nd.av) (sz:=6) (s:=q.nodes) (k:=k') (j:=(k:Int)) (x:=z) (by omega) (by simpa using hz) rfl
 simp[vP,c98,hk,KL,aa,e0,e5,e7,e8,e9,hget,hb,ne2,h7,ky,kz,i3,q3,qy,qz,qw,AV.beq,AV.dh,List.replicate]
theorem W8(n x y:Nd)(h6:n.k≠7)(hy:y.k≠9)(hyn:y.k=10->-1099511627776<=y.num∧y.num<=1099511627776)(j3:Env)(he:E98 j3 b h.length (ixR j0 x))(r:CC) :
  goF c98.res (evC K (mu K) (.seq vP (.seq BM r)) ⟨j3,[.box 90 false n.av,.box 90 false x.av,.box 90 false y.av,.box 50 false (au q.uses.l l.l x).av]::h⟩) =
   some (.val (.lst [(⟨if n.num=1 then 1 else 0,(ixR j0 x:Int),0,dM (au q.uses.l l.l x) y,0⟩:Pt).av]) h):=by
 obtain⟨e0,e5,e6,e7,e8,e9⟩:=he;have qy:=ak _ aP y.kids;have hf:=m.hf x;generalize au q.uses.l l.l x=f at *
 have qw:=ak _ bD f.words;obtain⟨_,w1,w2,w3,w4⟩:=hf;have ky:=λh=>f158 f y h (by omega) (λe=>by have:=hyn e;omega)
 by_cases h1:n.num=1
 ·simp[vP,BM,c98,KL,aa,e5,e7,e8,e9,hget,h6,hy,ky,h1,List.replicate]
 ·simp[vP,BM,c98,KL,aa,e5,e7,e8,e9,hget,h6,hy,ky,h1,List.replicate]
theorem abv(n x y:Nd)(h6:n.k≠7)(hy:y.k=9)(j3:Env)(he:E98 j3 b h.length (ixR j0 x)) :
  ∃j3',evC K (mu K) (.seq vP (.seq BM (.seq Lc (.seq Ld Le)))) ⟨j3,[.box 90 false n.av,.box 90 false x.av,.box 90 false y.av,.box 50 false (au q.uses.l l.l x).av]::h⟩ =
   some (.norm,⟨j3',[.box 90 false n.av,.box 90 false x.av,.box 90 false y.av,.box 50 false (au q.uses.l l.l x).av,.box 50 false (au q.uses.l l.l y).av]::h⟩)∧G98 j3' h.length (ixR j0 x) (ixR j0 y) ((au q.uses.l l.l y).mn-(au q.uses.l l.l x).mn) (-(bU (au q.uses.l l.l y))) (bU (au q.uses.l l.l x)):=by
 obtain⟨e0,e5,e6,e7,e8,e9⟩:=he;obtain⟨ne,ne2⟩:=jq m.hb;have hb:=m.hb;have qy:=ak _ aP y.kids;have W5:=λF=>f156 q l j0 R b y (F::h) m.rl (dA F hb)
 have W6:=λF=>f157 q m.hq l m.hl j0 R b y (F::h) (dA F hb) m.hr
 have hf:=m.hf x;have hg:=m.hf y;generalize au q.uses.l l.l x=f at *
 generalize au q.uses.l l.l y=g at *
 have qw:=ak _ bD f.words;have qv:=ak _ bD g.words;have rg:0<=bU g∧bU g<=4294967296:=by
  obtain⟨a1,a2,a3,a4,a5⟩:=hg;unfold bU;split
  ·rcases a1 with a1|a1<;>omega
  ·omega
 obtain⟨_,w1,w2,w3,w4⟩:=hf;obtain⟨_,v1,v2,v3,v4⟩:=hg;have kf:=λh=>f159 f h (by omega) (by omega)
 have kg:=λh=>f159 g h (by omega) (by omega)
 have w:IntKind.i64.wrap (g.mn-f.mn)=g.mn-f.mn:=wrap64 (by omega) (by omega);have hy':(y.k=9)=True:=eq_true hy;have w':IntKind.i64.wrap (-bU g)=-bU g:=wrap64 (by omega) (by omega);simp[vP,BM,Lc,Ld,Le,G98,KL,aa,e0,e5,e7,e8,e9,hget,h6,hy',W5,W6,qy,qw,qv,kf,kg,w,w',AV.beq,AV.dh]
end
def NQ(num a b d lo hi:Int):List Pt:=
 if num=0 then (if d=0 then [⟨3,a,b,0,0⟩] else [⟨5,a,b,d,d⟩])
 else if num=2 then [⟨5,a,b,lo,d-1⟩]
 else if num=3 then [⟨5,a,b,lo,d⟩]
 else if d=0 then [⟨4,a,b,0,0⟩] else eY a b lo (d-1)++eY a b (d+1) hi
theorem abw(n:Nd)(X Y F G:Blk)(h:Heap)(a b d lo hi:Int)(hd:-4294967296<=d∧d<=4294967296)(j3:Env)(he:G98 j3 h.length a b d lo hi)(hne:NQ n.num a b d lo hi≠[]) :
  goF c98.res (evC K (mu K) (.seq lD (.seq tV (.seq xp (.seq xq (.seq xu (.seq xw xx)))))) ⟨j3,[.box 90 false n.av,X,Y,F,G]::h⟩) =
   some (.val (.lst ((NQ n.num a b d lo hi).map Pt.av)) h):=by
 obtain⟨e5,e8,e11,e13,e14,e15⟩:=he;have w1:IntKind.i64.wrap (d-1)=d-1:=wrap64 (by omega) (by omega);have w2:IntKind.i64.wrap (d+1)=d+1:=wrap64 (by omega) (by omega);have k:=λlo hi h=>f160 a b lo hi h
 have r1:(1:Nat)*40<=room:=by unfold room;omega
 have r2:(2:Nat)*40<=room:=by unfold room;omega
 have r3:(1:Nat)<=room:=by unfold room;omega
 have r4:(2:Nat)<=room:=by unfold room;omega
 have r5:(40:Nat)<=room:=by unfold room;omega
 have r6:(80:Nat)<=room:=by unfold room;omega
 unfold NQ eY;by_cases n0:n.num=0
 ·by_cases d0:d=0
  ·simp[lD,c98,e5,e8,e11,e13,hget,n0,d0,List.replicate]
  ·simp[lD,c98,KL,aa,e5,e8,e11,e13,hget,n0,d0,k,List.replicate]
 by_cases n2:n.num=2
 ·simp[lD,c98,KL,aa,e5,e8,e11,e13,e14,hget,n2,k,w1,List.replicate]
 by_cases n3:n.num=3
 ·simp[lD,c98,KL,aa,e5,e8,e11,e13,e14,hget,n3,k,List.replicate]
 by_cases d0:d=0
 ·simp[lD,tV,c98,e5,e8,e11,e13,hget,n0,n2,n3,d0,List.replicate]
 by_cases c1:lo<=d-1
 ·by_cases c2:d+1<=hi
  ·simp[lD,tV,xp,xq,xu,xw,xx,c98,KL,aa,e5,e8,e11,e13,e14,e15,hget,n0,n2,n3,d0,k,w1,w2,c1,c2,r1,r2,r3,r4,List.replicate]
  ·simp[lD,tV,xp,xq,xu,xw,xx,c98,KL,aa,e5,e8,e11,e13,e14,e15,hget,n0,n2,n3,d0,k,w1,w2,c1,c2,r1,r3,List.replicate]
 ·by_cases c2:d+1<=hi
  ·simp[lD,tV,xp,xq,xu,xw,xx,c98,KL,aa,e5,e8,e11,e13,e14,e15,hget,n0,n2,n3,d0,k,w1,w2,c1,c2,r1,r3,List.replicate]
  ·exact absurd (by unfold NQ eY;simp[n0,n2,n3,d0,c1,c2]) hne
theorem NR:tB.body=.code (.seq Fq (.seq Fu (.seq mY (.seq qN (.seq BO (.seq BP (.seq BQ (.seq BR (.seq mZ (.seq qO mK)))))))))):=rfl
def F4(j3:Env)(b:Loc)(n:Nat):Prop:=get j3 0=.ptr b 0∧get j3 3=.ptr (n,0) 0∧get j3 5=.ptr (n,1) 0∧get j3 6=.ptr (n,2) 0
section
variable(nodes:Sl Nd)(fd:Nd->Pol.Fd)(j0:List Rf)(Q:Nd->Prop)(h:Heap)(b:Loc)(m:Mk nodes fd j0 Q h b)
include m
theorem W9(n:Nd)(i j:Nat)(r:List AV)(x y:Nd)(hk:n.kids.avS iV=.lst (iV (i:Int)::iV (j:Int)::r))(hx:nodes.l[i]?=some x)(hy:nodes.l[j]?=some y)(qx:Q x)(c:Loc)(hc:c.1<h.length)
  (Xa:∀F:List Blk,(mu K).fn 183 [.ptr b 0,iV (i:Int)] (F::h)=some (.val (je (ixR j0 x:Int) (fd x) (.mp c)) (F::h))) (j3:Env) (e0:get j3 0=.ptr b 0) (e3:get j3 3=.ptr (h.length,0) 0) :
  ∃j3',evC K (mu K) Fu ⟨j3,[.box 90 false n.av]::h⟩=some (.norm,⟨j3',[.box 90 false n.av,.box 102 false (je (ixR j0 x:Int) (fd x) (.mp c)),.box 90 false y.av]::h⟩)∧F4 j3' b h.length:=by
 obtain⟨hf,hl,am,rr,es,h1,h2,h3⟩:=m;obtain⟨ne,ne2⟩:=jq h1;have q3:=ak _ bX nodes;have qk:=ak _ aP n.kids;have qy:=ak _ aP y.kids;have qw:=ak _ bD (fd x).words;rw[hk]at qk;have qr:AV.dh r r=true:=by simpa[AV.beq,AV.dh]using qk
 have lc:c.1<=h.length:=by omega
 have hia:=iaP Nd.av 6 nodes j y (by simpa using hy);have pd:n.av=.agg [iV n.k,iV n.num,.str n.nm,.str n.attr,.lst (iV (i:Int)::iV (j:Int)::r),iV n.pos]:=by rw[<-hk]
 rw[pd];simp[Fu,F4,KL,aa,e0,e3,hget,h1,ne2,Xa,hia,q3,qy,qr,lc,AV.beq,AV.dh]
theorem Xb(n:Nd)(i j k:Nat)(x y z:Nd)(hk:n.kids.avS iV=.lst [iV (i:Int),iV (j:Int),iV (k:Int)])(h7:n.k=7)(hz:nodes.l[k]?=some z)(hy:y.k=10∨y.k=11)(hz1:z.k=10∨z.k=11)
  (hyn:y.k=10->-1099511627776<=y.num∧y.num<=1099511627776) (hzn:z.k=10->-1099511627776<=z.num∧z.num<=1099511627776) (c:Loc) (ws:List (AV×AV)) (h1:hget h c=some (.map ws)) (h2:WdM (fd x) ws) (j3:Env) (he:F4 j3 b h.length) (r:CC) :
  goF tB.res (evC K (mu K) (.seq mY r) ⟨j3,[.box 90 false n.av,.box 102 false (je (ixR j0 x:Int) (fd x) (.mp c)),.box 90 false y.av]::h⟩)=some (.val (.lst [(⟨2,(ixR j0 x:Int),0,dM (fd x) y,dM (fd x) z⟩:Pt).av]) h):=by
 obtain⟨e0,e3,e5,e6⟩:=he;obtain⟨hf,hl,am,rr,es,m1,m2,m3⟩:=m;obtain⟨ne,ne2⟩:=jq m1;obtain⟨ne3,ne4⟩:=jq h1;have q3:=ak _ bX nodes;have qz:=ak _ aP z.kids;have qw:=ak _ bD (fd x).words;have ky:=λF=>f184 (ixR j0 x:Int) (fd x) (hf x) c ws y hy hyn (F::h) (dA F h1) h2
 have kz:=λF=>f184 (ixR j0 x:Int) (fd x) (hf x) c ws z hz1 hzn (F::h) (dA F h1) h2
 have hia:=iaP Nd.av 6 nodes k z (by simpa using hz);have pd:n.av=.agg [iV n.k,iV n.num,.str n.nm,.str n.attr,.lst [iV (i:Int),iV (j:Int),iV (k:Int)],iV n.pos]:=by rw[<-hk]
 rw[pd];simp[mY,tB,KL,aa,e0,e3,e5,e6,hget,m1,ne2,h7,ky,kz,hia,q3,qz,qw,AV.beq,AV.dh]
theorem Xc(n:Nd)(x y:Nd)(h6:n.k=6)(hn:n.num=0∨n.num=1)(hy:y.k=10∨y.k=11)
  (hyn:y.k=10->-1099511627776<=y.num∧y.num<=1099511627776) (c:Loc) (ws:List (AV×AV)) (h1:hget h c=some (.map ws)) (h2:WdM (fd x) ws) (j3:Env) (he:F4 j3 b h.length) (r:CC) :
  goF tB.res (evC K (mu K) (.seq mY (.seq qN r)) ⟨j3,[.box 90 false n.av,.box 102 false (je (ixR j0 x:Int) (fd x) (.mp c)),.box 90 false y.av]::h⟩)=some (.val (.lst [(⟨n.num,(ixR j0 x:Int),0,dM (fd x) y,0⟩:Pt).av]) h):=by
 obtain⟨e0,e3,e5,e6⟩:=he;obtain⟨hf,hl,am,rr,es,m1,m2,m3⟩:=m;obtain⟨ne,ne2⟩:=jq m1;obtain⟨ne3,ne4⟩:=jq h1;have qw:=ak _ bD (fd x).words;have qk:=ak _ aP n.kids;have ky:=λF=>f184 (ixR j0 x:Int) (fd x) (hf x) c ws y hy hyn (F::h) (dA F h1) h2
 have n9:(y.k=9)=False:=eq_false (by omega);rcases hn with hn|hn
 ·simp[mY,qN,tB,KL,aa,e3,e5,e6,hget,h6,hn,n9,ky,qw,AV.beq,AV.dh]
 ·simp[mY,qN,tB,KL,aa,e3,e5,e6,hget,h6,hn,n9,ky,qw,AV.beq,AV.dh]
end
theorem gD:ptB []=.arr 0 0 false []:=rfl
section
variable(nodes:Sl Nd)(fd:Nd->Pol.Fd)(j0:List Rf)(Q:Nd->Prop)(h:Heap)(b:Loc)(m:Mk nodes fd j0 Q h b)
def Xd(j3:Env)(b:Loc)(n:Nat)(d:Int):Prop:=get j3 3=.ptr (n,0) 0∧get j3 5=.ptr (n,1) 0∧get j3 8=.ptr (n,3) 0∧get j3 9=iV d∧get j3 10=.ptr (n,5) 0 ∧
 get j3 11=.fn (.func 185) [] [.ptr (n,5) 0,.ptr (n,1) 0,.ptr (n,3) 0]
include m
theorem TL(n:Nd)(h6:n.k=6)(x y:Nd)(hy:y.k=9)(v:AV)(j3:Env)(he:F4 j3 b h.length) :
  ∃j3',evC K (mu K) (.seq mY qN) ⟨j3,[.box 90 false n.av,.box 102 false v,.box 90 false y.av]::h⟩=some (.norm,⟨j3',[.box 90 false n.av,.box 102 false v,.box 90 false y.av]::h⟩)∧F4 j3' b h.length:=by
 obtain⟨e0,e3,e5,e6⟩:=he;simp[mY,qN,F4,e0,e3,e5,e6,hget,h6,hy]
theorem TM(n:Nd)(i j:Nat)(r:List AV)(x y:Nd)(hk:n.kids.avS iV=.lst (iV (i:Int)::iV (j:Int)::r))(hy:nodes.l[j]?=some y)(qy:Q y)(c c':Loc)(lc:c'.1<h.length)
  (Xa:∀F:List Blk,(mu K).fn 183 [.ptr b 0,iV (j:Int)] (F::h)=some (.val (je (ixR j0 y:Int) (fd y) (.mp c')) (F::h))) (j3:Env) (he:F4 j3 b h.length) :
  ∃j3',evC K (mu K) (.seq BO (.seq BP (.seq BQ BR))) ⟨j3,[.box 90 false n.av,.box 102 false (je (ixR j0 x:Int) (fd x) (.mp c)),.box 90 false y.av]::h⟩ =
   some (.norm,⟨j3',AtF n (je (ixR j0 x:Int) (fd x) (.mp c)) y.av (je (ixR j0 y:Int) (fd y) (.mp c')) [] h⟩)∧Xd j3' b h.length ((fd y).mn-(fd x).mn):=by
 obtain⟨e0,e3,e5,e6⟩:=he;obtain⟨hf,hl,am,rr,es,m1,m2,m3⟩:=m;obtain⟨ne,ne2⟩:=jq m1;obtain⟨_,_,x1,x2,_⟩:=hf x;obtain⟨_,_,y1,y2,_⟩:=hf y;have lc2:c'.1<=h.length:=by omega
 have w:IntKind.i64.wrap ((fd y).mn-(fd x).mn)=(fd y).mn-(fd x).mn:=wrap64 (by omega) (by omega);have pd:n.av=.agg [iV n.k,iV n.num,.str n.nm,.str n.attr,.lst (iV (i:Int)::iV (j:Int)::r),iV n.pos]:=by rw[<-hk]
 simp only[AtF];rw[pd];simp[BO,BP,BQ,BR,Xd,KL,aa,e0,e3,e5,hget,Xa,lc2,w,ptB]
theorem Xe(n:Nd)(h3:n.num=0∨n.num=1∨n.num=2∨n.num=3)(x y:Nd)(c c':Loc)(j3:Env)(he:Xd j3 b h.length ((fd y).mn-(fd x).mn))(z:Nd)(h6:n.k=6)(hy:y.k=9) :
  goF tB.res (evC K (mu K) (.seq mZ (.seq qO mK)) ⟨j3,AtF n (je (ixR j0 x:Int) (fd x) (.mp c)) y.av (je (ixR j0 y:Int) (fd y) (.mp c')) [] h⟩)=some (.val (.lst ((nK j0 fd 6 n.num x y z).map Pt.av)) h):=by
 obtain⟨e3,e5,e8,e9,e10,e11⟩:=he;have hf:=m.hf;have sx:=f186 (ixR j0 x:Int) (fd x) (.mp c);have sy:=f186 (ixR j0 y:Int) (fd y) (.mp c');have fx:=hf x;have fy:=hf y;have rx:0<=bU (fd x)∧bU (fd x)<=4294967296:=by
  obtain⟨a1,a2,a3,a4,a5⟩:=fx;unfold bU;split
  ·rcases a1 with a1|a1<;>omega
  ·omega
 have ry:0<=bU (fd y)∧bU (fd y)<=4294967296:=by
  obtain⟨a1,a2,a3,a4,a5⟩:=fy;unfold bU;split
  ·rcases a1 with a1|a1<;>omega
  ·omega
 obtain⟨_,x3,x1,x2,x4⟩:=fx;obtain⟨_,y3,y1,y2,y4⟩:=fy;have sx:=λh=>sx h (by omega) (by omega)
 have sy:=λh=>sy h (by omega) (by omega)
 have w0:IntKind.i64.wrap (-bU (fd y))=-bU (fd y):=wrap64 (by omega) (by omega);have w1:IntKind.i64.wrap ((fd y).mn-(fd x).mn-1)=(fd y).mn-(fd x).mn-1:=wrap64 (by omega) (by omega);have w2:IntKind.i64.wrap ((fd y).mn-(fd x).mn+1)=(fd y).mn-(fd x).mn+1:=wrap64 (by omega) (by omega);have k:=λl hl lo hi=>f185 n y.av (ixR j0 x:Int) (ixR j0 y:Int) (fd x) (fd y) (.mp c) (.mp c') l hl lo hi h
 have l1:∀lo hi,(eY (ixR j0 x:Int) (ixR j0 y:Int) lo hi).length<=10:=λlo hi=>by
  unfold eY;split<;>simp
 have k0:=k [] (by simp);have k1:=λlo hi=>k (eY (ixR j0 x:Int) (ixR j0 y:Int) lo hi) (l1 lo hi)
 clear k;simp only[afq]at k0;unfold nK;rw[if_neg (by decide),if_neg (by omega)];generalize hd:(fd y).mn-(fd x).mn=d at *
 generalize bU (fd x)=px at *
 generalize bU (fd y)=py at *
 have hB:∀L:List Pt,∃t z,ptB L=.arr t z false (L.map Pt.av)∧(z=0∨t=56∧z=5):=λL:List Pt=>jD L
 rcases h3 with h3|h3|h3|h3
 ·rw[h3,if_neg (by decide),if_neg (by decide),if_pos rfl];by_cases hd0:d=0
  ·rw[if_pos hd0];simp[mZ,tB,e3,e5,e8,e9,AtF,hget,h3,hd0]
  ·rw[if_neg hd0];obtain⟨t1,s1,b1,_⟩:=hB (eY (ixR j0 x:Int) (ixR j0 y:Int) (d) (d));have k0:=k0 (d) (d);simp only[AtF,b1,gD,iO]at k0;simp[mZ,qO,mK,tB,KL,aa,e3,e9,e10,e11,AtF,hget,h3,gD,k0,hd0]
 ·rw[h3,if_neg (by decide),if_neg (by decide),if_neg (by decide)];by_cases hd0:d=0
  ·rw[if_pos hd0];simp[mZ,tB,e3,e5,e8,e9,AtF,hget,h3,hd0]
  ·rw[if_neg hd0];have k1:=k1 (-py) (d-1) (d+1) px;obtain⟨t1,s1,b1,_⟩:=hB (eY (ixR j0 x:Int) (ixR j0 y:Int) (-py) (d-1));obtain⟨t2,s2,b2,_⟩:=hB (eY (ixR j0 x:Int) (ixR j0 y:Int) (-py) (d-1)++eY (ixR j0 x:Int) (ixR j0 y:Int) (d+1) px);have k0:=k0 (-py) (d-1);simp only[AtF,b1,b2,gD,iO]at k0 k1;simp[mZ,qO,mK,tB,KL,aa,e3,e5,e8,e9,e10,e11,AtF,hget,h3,gD,k0,k1,sx,sy,w0,w1,w2,hd0]
 ·rw[h3,if_pos rfl];obtain⟨t1,s1,b1,_⟩:=hB (eY (ixR j0 x:Int) (ixR j0 y:Int) (-py) (d-1));have k0:=k0 (-py) (d-1);simp only[AtF,b1,gD,iO]at k0;simp[mZ,qO,mK,tB,KL,aa,e3,e8,e9,e10,e11,AtF,hget,h3,gD,k0,sy,w0,w1]
 ·rw[h3,if_neg (by decide),if_pos rfl];obtain⟨t1,s1,b1,_⟩:=hB (eY (ixR j0 x:Int) (ixR j0 y:Int) (-py) (d));have k0:=k0 (-py) (d);simp only[AtF,b1,gD,iO]at k0;simp[mZ,qO,mK,tB,KL,aa,e3,e8,e9,e10,e11,AtF,hget,h3,gD,k0,sy,w0]
end
