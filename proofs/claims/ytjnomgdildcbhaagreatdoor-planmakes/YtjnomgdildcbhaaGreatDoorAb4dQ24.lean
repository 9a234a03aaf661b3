/-
  The reference's normal form: ranges and comparisons with numbers.
-/
import Derived.Test.YtjnomgdildcbhaaGreatDoorAb4dQ22
set_option linter.all false
set_option maxRecDepth 100000
set_option maxHeartbeats 4000000
namespace Go.Ab.Pn
open Go.Ab.Pol
section
variable(p:Po)(hp:Sz p)(l:Sl Sc)(hl:okL l)(b0:Loc)
include hp hl
theorem f149(x:Nd)(lo hi:Int)(h:Heap)(hb:hget h b0=some (.box 181 false (bK p l)))(lb:b0.1<h.length) :
  (mu K).fn 149 [.ptr b0 0,x.av,iV lo,iV hi] h=some (.val (bB (within (au p.uses.l l.l) x lo hi)) h):=by
 have n1:(b0.1=h.length)=False:=eq_false (by omega);have pL:=λF=>f193 p hp l hl b0 (F::h) (by simp only[hget];rw[if_neg (by omega)];exact hb) (by simp only[Io];omega) x
 unfold within;generalize au p.uses.l l.l x=f at *
 have m1:iw true (iV lo) [iV f.mn]=some (iV (max lo f.mn)):=by
  simp only[iw,if_true]
  congr 2
  split<;>omega
 have m2:iw false (iV hi) [iV f.mx]=some (iV (min hi f.mx)):=by
  simp only[iw]
  congr 2
  split<;>simp_all<;>omega
 generalize max lo f.mn=A at *
 generalize min hi f.mx=B at *
 have qx:=ak _ aP x.kids;have qf:=ak _ bD f.words;have k81:=λb h=>f145 b h
 have Dy:=λn a b h=>f195 n a b h
 have Az:=λh=>f196 x h
 have Hv:=λn h=>f198 n h
 simp only[bq]at Hv;rw[aC (KX _ _ _) ZE rfl (by simp[GW])];by_cases c1:B<A
 ·simp[GW,KL,aa,pL,m1,m2,c1,k81,cB,rK,rN,rS,lv]
 by_cases c2:A=f.mn∧B=f.mx
 ·obtain⟨c2,c3⟩:=c2;have d1:(f.mx<f.mn)=False:=by simp;omega
  simp[GW,KL,aa,pL,m1,m2,c2,c3,d1,k81,cB,rK,rN,rS,lv]
 by_cases c3:A=B
 ·have PM:=Dy 0 x (bq B);simp only[bq]at PM;subst c3;by_cases d:A=f.mn
  ·subst d;have d2:(f.mn=f.mx)=False:=by simp;intro q;exact c2 ⟨rfl,q⟩
   simp[GW,KL,aa,pL,m1,m2,d2,Az,Hv,PM,dV,rK,rN,rS,lv,bq]
  ·simp[GW,KL,aa,pL,m1,m2,d,Az,Hv,PM,dV,rK,rN,rS,lv,bq]
 ·rw[if_neg c1,if_neg c2,if_neg c3];by_cases d:A=f.mn
  ·subst d;have d2:(B=f.mx)=False:=by simp;intro q;exact c2 ⟨rfl,q⟩
   simp[GW,KL,aa,pL,m1,m2,c1,c3,d2,Az,Hv,rK,rN,rS,lv,bq]
  ·simp[GW,KL,aa,pL,m1,m2,c1,c3,d,Az,Hv,rK,rN,rS,lv,bq]
theorem f194(j6:Int)(hh:How j6)(x:Nd)(c:Int)(hc:-2147483648<=c∧c<=2147483647)(h:Heap)(hb:hget h b0=some (.box 181 false (bK p l)))(lb:b0.1<h.length) :
  (mu K).fn 194 [.ptr b0 0,iV j6,x.av,iV c,(au p.uses.l l.l x).av] h=some (.val (bB (bounded (au p.uses.l l.l) j6 x c)) h):=by
 have n1:(b0.1=h.length)=False:=eq_false (by omega);have k85:=λlo hi F=>f149 p hp l hl b0 x lo hi (F::h) (by simp only[hget];rw[if_neg (by omega)];exact hb) (by simp only[Io];omega)
 unfold bounded;generalize hW:within (au p.uses.l l.l) x=W at *
 generalize au p.uses.l l.l x=f at *
 have qx:=ak _ aP x.kids;have qf:=ak _ bD f.words;have k81:=λb h=>f145 b h
 have Dy:=λh=>f195 1 x (bq c) h
 have Az:=λh=>f196 x h
 have Hv:=λn h=>f198 n h
 simp only[bq]at Hv Dy;have w1:IntKind.i64.wrap (c-1)=c-1:=wrap64 (by omega) (by omega);have w2:IntKind.i64.wrap (c+1)=c+1:=wrap64 (by omega) (by omega);rw[aC (KX _ _ _) aaj rfl (by simp[c194])];rcases hh with rfl|rfl|rfl|rfl|rfl|rfl
 ·simp[c194,KL,aa,k85]
 ·by_cases c1:c<f.mn
  ·simp[c194,KL,aa,c1,k81,cB,rK,rN,rS,lv]
  by_cases c2:f.mx<c
  ·simp[c194,KL,aa,c1,c2,k81,cB,rK,rN,rS,lv]
  by_cases c3:f.mn=f.mx
  ·have c1':(c<f.mx)=False:=by simp;omega
   simp[c194,KL,aa,c1',c2,c3,k81,cB,rK,rN,rS,lv]
  ·simp[c194,KL,aa,c1,c2,c3,Az,Hv,Dy,dV,rK,rN,rS,lv,bq]
 ·simp[c194,KL,aa,k85,w1]
 ·simp[c194,KL,aa,k85]
 ·simp[c194,KL,aa,k85,w2]
 ·simp[c194,KL,aa,k85]
end
theorem ND:c167.body=.code (.seq uz (.seq xD (.seq xE (.seq iR (.seq iT (.seq iU (.seq uA (.seq uB uC)))))))):=rfl
def AA(j6 lo hi:Int):Bool:=if j6=0 then decide (lo=0)&&decide (hi=0) else if j6=1 then decide (0<lo) ||decide (hi<0) else if j6=2 then decide (hi<0) else decide (hi<=0)
def Cm(j6 lo hi:Int):Bool:=if j6=0 then decide (0<lo) ||decide (hi<0) else if j6=1 then decide (lo=0)&&decide (hi=0) else if j6=2 then decide (0<=lo) else decide (0<lo)
theorem WK(fd:Nd->Pol.Fd)(j6:Int)(h3:j6=0∨j6=1∨j6=2∨j6=3)(a b:Nd) :
  cP fd j6 a b=if (AA j6 ((fd a).mn-(fd b).mx) ((fd a).mx-(fd b).mn) ||Cm j6 ((fd a).mn-(fd b).mx) ((fd a).mx-(fd b).mn))=true then cB (AA j6 ((fd a).mn-(fd b).mx) ((fd a).mx-(fd b).mn)) else dV j6 a b:=by
 unfold cP;generalize (fd a).mn-(fd b).mx=lo;generalize (fd a).mx-(fd b).mn=hi;rcases h3 with rfl|rfl|rfl|rfl<;>simp[AA,Cm]
abbrev NG(M:AV)(a b:Nd)(f g:Pol.Fd):List Blk:=[.box 123 false M,.box 90 false a.av,.box 90 false b.av,.box 50 false f.av,.box 50 false g.av]
theorem WL(h:Heap)(M:AV)(a b:Nd)(f g:Pol.Fd)(xf:FdX f)(xg:FdX g)(j6:Int)(h3:j6=0∨j6=1∨j6=2∨j6=3)(j3:Env)(e1:get j3 1=iV j6)(e6:get j3 6=.ptr (h.length,1) 0)(e7:get j3 7=.ptr (h.length,2) 0)
  (e9:get j3 9=.ptr (h.length,3) 0) (e10:get j3 10=.ptr (h.length,4) 0) :
  ∃j3',evC K (mu K) (.seq iR (.seq iT iU)) ⟨j3,NG M a b f g::h⟩=some (.norm,⟨j3',NG M a b f g::h⟩)∧get j3' 1=iV j6∧get j3' 6=.ptr (h.length,1) 0∧get j3' 7=.ptr (h.length,2) 0 ∧
   get j3' 13=.bool (AA j6 (f.mn-g.mx) (f.mx-g.mn))∧get j3' 14=.bool (Cm j6 (f.mn-g.mx) (f.mx-g.mn)):=by
 obtain⟨fk,f1,f2,f3⟩:=xf;obtain⟨gk,g1,g2,g3⟩:=xg;obtain⟨A,hA⟩:∃A,f.mn-g.mx=A:=⟨_,rfl⟩
 obtain⟨B,hB⟩:∃B,f.mx-g.mn=B:=⟨_,rfl⟩
 have w1:IntKind.i64.wrap (f.mn-g.mx)=A:=by rw[<-hA];exact wrap64 (by omega) (by omega)
 have w2:IntKind.i64.wrap (f.mx-g.mn)=B:=by rw[<-hB];exact wrap64 (by omega) (by omega)
 rw[hA,hB];rcases h3 with rfl|rfl|rfl|rfl
 ·by_cases d1:A=0<;>by_cases d3:0<A
  ·omega
  ·simp[iR,iT,iU,e1,e6,e7,e9,e10,w1,w2,AA,Cm,d1]
  ·simp[iR,iT,iU,e1,e6,e7,e9,e10,w1,w2,AA,Cm,d1,d3]
  ·simp[iR,iT,iU,e1,e6,e7,e9,e10,w1,w2,AA,Cm,d1,d3]
 ·by_cases d1:A=0<;>by_cases d3:0<A
  ·omega
  ·simp[iR,iT,iU,e1,e6,e7,e9,e10,w1,w2,AA,Cm,d1]
  ·simp[iR,iT,iU,e1,e6,e7,e9,e10,w1,w2,AA,Cm,d1,d3]
  ·simp[iR,iT,iU,e1,e6,e7,e9,e10,w1,w2,AA,Cm,d1,d3]
 ·simp[iR,iT,iU,e1,e6,e7,e9,e10,w1,w2,AA,Cm]
 ·simp[iR,iT,iU,e1,e6,e7,e9,e10,w1,w2,AA,Cm]
theorem WM(h:Heap)(M:AV)(a b:Nd)(f g:Pol.Fd)(j6:Int)(x y:Bool)(j3:Env)(e1:get j3 1=iV j6)(e6:get j3 6=.ptr (h.length,1) 0)(e7:get j3 7=.ptr (h.length,2) 0)
  (e13:get j3 13=.bool x) (e14:get j3 14=.bool y) :
  goF c167.res (evC K (mu K) (.seq uA (.seq uB uC)) ⟨j3,NG M a b f g::h⟩)=some (.val (aX (if (x ||y)=true then cB x else dV j6 a b)) h):=by
 have nV:=λb h=>f107 b h
 have Hr:=λn a b h=>f168 n a b h
 have qa:=ak _ aP a.kids;have qb:=ak _ aP b.kids;cases x<;>cases y<;>simp[uA,uB,uC,c167,KL,aa,e1,e6,e7,e13,e14,nV,Hr]
section
variable(p:Po)(hp:Sz p)(l:Sl Sc)(hl:okL l)(hr:bz p l.l=0)
include hp hl hr
theorem WN(j6:Int)(hh:How j6)(a b:Nd)(h:Heap) :
  ∃j3',evC K (mu K) (.seq uz (.seq xD xE)) ⟨cI 0 [bK p l,iV j6,a.av,b.av],[]::h⟩=some (.norm,⟨j3',(if j6=4∨j6=5 then NG (bK p l) b a (au p.uses.l l.l b) (au p.uses.l l.l a) else NG (bK p l) a b (au p.uses.l l.l a) (au p.uses.l l.l b))::h⟩) ∧
   get j3' 1=iV (if j6=4∨j6=5 then cN j6 else j6)∧get j3' 6=.ptr (h.length,1) 0∧get j3' 7=.ptr (h.length,2) 0∧get j3' 9=.ptr (h.length,3) 0∧get j3' 10=.ptr (h.length,4) 0:=by
 have ka:=λh=>f166 p hp l hl hr a h
 have kb:=λh=>f166 p hp l hl hr b h
 have q1:=ak _ dI p.uses;have q2:=ak _ dz p.az;have q3:=ak _ bX p.nodes;have q4:=ak _ eo l;have qa:=ak _ aP a.kids;have qb:=ak _ aP b.kids;have m4:=λh=>f163 4 (by simp[How]) h
 have m5:=λh=>f163 5 (by simp[How]) h
 simp only[show cN 4=2 by decide,show cN 5=3 by decide]at m4 m5;generalize au p.uses.l l.l a=f at *
 generalize au p.uses.l l.l b=g at *
 have qf:=ak _ bD f.words;have qg:=ak _ bD g.words;simp only[bK,Po.cs,afo,afq]at ka kb⊢;rcases hh with rfl|rfl|rfl|rfl|rfl|rfl
 all_goals simp[uz,xD,xE,KL,aa,ka,kb,q1,q2,q3,q4,qa,qb,m4,m5,cN]
theorem f167(j6:Int)(hh:How j6)(a b:Nd)(h:Heap):(mu K).fn 167 [bK p l,iV j6,a.av,b.av] h=some (.val (aX (numbers (au p.uses.l l.l) j6 a b)) h):=by
 have hAs:∀(a b:CC) (s:Option (Ex×St)),goS K (mu K) (.seq a b) s=goS K (mu K) b (goS K (mu K) a s):=λa b s=>by
  cases s with
  |none=>rfl
  |some q=>
   obtain⟨ex,s1⟩:=q;cases ex<;>simp only[goS,dm]
 obtain⟨j3,k,e1,e6,e7,e9,e10⟩:=WN p hp l hl hr j6 hh a b h;have xa:=FH (p:=p) (gU hr).sch a;have xb:=FH (p:=p) (gU hr).sch b;have main:∀(j6:Int) (a b:Nd),(j6=0∨j6=1∨j6=2∨j6=3)->FdX (au p.uses.l l.l a)->FdX (au p.uses.l l.l b)->get j3 1=iV j6 ->
   goF c167.res (goS K (mu K) (.seq (.seq iR (.seq iT iU)) (.seq uA (.seq uB uC))) (some (.norm,⟨j3,NG (bK p l) a b (au p.uses.l l.l a) (au p.uses.l l.l b)::h⟩)))=some (.val (aX (cP (au p.uses.l l.l) j6 a b)) h):=λj6 a b h3 xa xb e1=>by
  obtain⟨j3',k',g1,g6,g7,g13,g14⟩:=WL h (bK p l) a b _ _ xa xb j6 h3 j3 e1 e6 e7 e9 e10;rw[bk,dm,k',bk,WM h (bK p l) a b _ _ j6 _ _ j3' g1 g6 g7 g13 g14,WK _ j6 h3]
 rw[aC (KX _ _ _) ZX ND (by simp[c167])];have lO:evC K (mu K) (.seq uz (.seq xD (.seq xE (.seq iR (.seq iT (.seq iU (.seq uA (.seq uB uC)))))))) ⟨cI 0 [bK p l,iV j6,a.av,b.av],[]::h⟩ =
   goS K (mu K) (.seq (.seq iR (.seq iT iU)) (.seq uA (.seq uB uC))) (evC K (mu K) (.seq uz (.seq xD xE)) ⟨cI 0 [bK p l,iV j6,a.av,b.av],[]::h⟩):=by
  simp only[dm];generalize evC K (mu K) uz ⟨cI 0 [bK p l,iV j6,a.av,b.av],[]::h⟩=s0;simp only[hAs]
 rw[lO,k];unfold numbers;by_cases c:j6=4∨j6=5
 ·rw[if_pos c]at e1⊢;rw[if_pos c];refine main (cN j6) b a ?_ xb xa e1;rcases c with rfl|rfl<;>simp[cN]
 ·rw[if_neg c]at e1⊢;rw[if_neg c];refine main j6 a b ?_ xa xb e1;unfold How at hh;omega
end
theorem NH:vQ.body=.code (.seq kH (.seq lF (.seq lG (.seq ig (.seq lH (.seq lI (.seq lJ lK))))))):=rfl
def wj(n:Nd):Prop:=n.k=10->-2147483648<=n.num∧n.num<=2147483647
theorem lQ(a b:CC)(s:Option (Ex×St)):goS K (mu K) (.seq a b) s=goS K (mu K) b (goS K (mu K) a s):=by
 cases s with
 |none=>rfl
 |some q=>
  obtain⟨ex,s1⟩:=q;cases ex<;>simp only[goS,dm]
section
variable(p:Po)(hp:Sz p)(l:Sl Sc)(hl:okL l)(hr:bz p l.l=0)
include hp hl hr
theorem PN(j6:Int)(hh:How j6)(a b:Nd)(hb:wj b)(h:Heap)(j3:Env)(e1:get j3 1=iV j6)(e4:get j3 4=.ptr (h.length,0) 0)(e6:get j3 6=.ptr (h.length,1) 0)(e7:get j3 7=.ptr (h.length,2) 0)
  (e9:get j3 9=.bool (decide (a.nm=b.nm)&&decide (a.attr=b.attr))) :
  goF vQ.res (evC K (mu K) (.seq ig (.seq lH (.seq lI (.seq lJ lK)))) ⟨j3,[.box 123 false (bK p l),.box 90 false a.av,.box 90 false b.av]::h⟩)=some (.val (aX (bP (au p.uses.l l.l) j6 a b)) h):=by
 have q1:=ak _ dI p.uses;have q2:=ak _ dz p.az;have q3:=ak _ bX p.nodes;have q4:=ak _ eo l;have qa:=ak _ aP a.kids;have qb:=ak _ aP b.kids;have nV:=λb h=>f107 b h
 have abo:=λx y z h=>f164 x y z h
 unfold bP;by_cases c1:a.k=10
 ·rw[if_pos c1];simp[ig,vQ,KL,aa,e1,e6,e7,nV,abo,c1]
 rw[if_neg c1];by_cases c2:a.k=11
 ·rw[if_pos c2];simp[ig,vQ,KL,aa,e1,e6,e7,nV,c2]
 rw[if_neg c2];by_cases c3:b.k=10
 ·rw[if_pos c3];have abp:=λh=>f165 p hp l hl hr j6 hh a b.num (hb c3) h
  simp only[bK,Po.cs,afo,afq]at abp⊢;simp[ig,vQ,KL,aa,e1,e4,e6,e7,abp,c1,c2,c3]
 rw[if_neg c3];by_cases c4:b.k=9∧a.nm=b.nm∧a.attr=b.attr
 ·rw[if_pos c4];obtain⟨c4,c5,c6⟩:=c4;simp[ig,vQ,KL,aa,e1,e6,e7,e9,nV,abo,c1,c2,c4,c5,c6]
 rw[if_neg c4];have c4':(decide (b.k=9)&&(decide (a.nm=b.nm)&&decide (a.attr=b.attr)))=false:=by simpa using c4
 have jY:=λh=>f166 p hp l hl hr a h
 have WO:=λh=>f167 p hp l hl hr j6 hh a b h
 have Hr:=λh=>f168 j6 a b h
 generalize au p.uses.l l.l a=f at *
 have qf:=ak _ bD f.words;simp only[bK,Po.cs,afo,afq]at jY WO⊢;by_cases d:b.k=9
 ·simp only[d,decide_true,afS]at c4';rw[c4']at e9;have d:(b.k=9)=True:=by simp[d]
  by_cases c5:f.kind=0
  ·rw[if_pos c5];simp[ig,lH,lI,lJ,lK,vQ,KL,aa,e1,e4,e6,e7,e9,jY,WO,c1,c2,c3,d,c5]
  rw[if_neg c5];by_cases c6:f.words.l.length=1
  ·rw[if_pos c6];simp[ig,lH,lI,lJ,lK,vQ,KL,aa,e1,e4,e6,e7,e9,jY,nV,c1,c2,c3,d,c5,c6]
  ·rw[if_neg c6];have c6':((f.words.l.length:Int)=1)=False:=by simp;omega
   simp[ig,lH,lI,lJ,lK,vQ,KL,aa,e1,e4,e6,e7,e9,jY,Hr,c1,c2,c3,d,c5,c6']
 ·by_cases c5:f.kind=0
  ·rw[if_pos c5];simp[ig,lH,lI,lJ,lK,vQ,KL,aa,e1,e4,e6,e7,jY,WO,c1,c2,c3,d,c5]
  rw[if_neg c5];by_cases c6:f.words.l.length=1
  ·rw[if_pos c6];simp[ig,lH,lI,lJ,lK,vQ,KL,aa,e1,e4,e6,e7,jY,nV,c1,c2,c3,d,c5,c6]
  ·rw[if_neg c6];have c6':((f.words.l.length:Int)=1)=False:=by simp;omega
   simp[ig,lH,lI,lJ,lK,vQ,KL,aa,e1,e4,e6,e7,jY,Hr,c1,c2,c3,d,c5,c6']
omit hp hl hr in
theorem WQ(j6:Int)(hh:How j6)(a b:Nd)(h:Heap) :
  ∃j3',evC K (mu K) (.seq kH (.seq lF lG)) ⟨cI 0 [bK p l,iV j6,a.av,b.av],[]::h⟩=some (.norm,⟨j3',(if a.k≠9∧b.k=9 then [.box 123 false (bK p l),.box 90 false b.av,.box 90 false a.av] else [.box 123 false (bK p l),.box 90 false a.av,.box 90 false b.av])::h⟩) ∧
   get j3' 1=iV (if a.k≠9∧b.k=9 then cN j6 else j6)∧get j3' 4=.ptr (h.length,0) 0∧get j3' 6=.ptr (h.length,1) 0∧get j3' 7=.ptr (h.length,2) 0 ∧
   get j3' 9=.bool (if a.k≠9∧b.k=9 then (decide (b.nm=a.nm)&&decide (b.attr=a.attr)) else (decide (a.nm=b.nm)&&decide (a.attr=b.attr))):=by
 have q1:=ak _ dI p.uses;have q2:=ak _ dz p.az;have q3:=ak _ bX p.nodes;have q4:=ak _ eo l;have qa:=ak _ aP a.kids;have qb:=ak _ aP b.kids;have km:=λh=>f163 j6 hh h
 simp only[bK,Po.cs,afo,afq];by_cases c:a.k=9
 ·have d:¬ (a.k≠9∧b.k=9):=λq=>q.1 c
  simp only[if_neg d];by_cases e:a.nm=b.nm
  ·simp[kH,lF,lG,c,e]
  ·simp[kH,lF,lG,c,e]
 ·by_cases c2:b.k=9
  ·simp only[if_pos (show a.k≠9∧b.k=9 from⟨c,c2⟩)];by_cases e:b.nm=a.nm
   ·simp[kH,lF,lG,KL,aa,qa,qb,km,c,c2,e]
   ·simp[kH,lF,lG,KL,aa,qa,qb,km,c,c2,e]
  ·have d:¬ (a.k≠9∧b.k=9):=λq=>c2 q.2
   simp only[if_neg d];by_cases e:a.nm=b.nm
   ·simp[kH,lF,lG,c,c2,e]
   ·simp[kH,lF,lG,c,c2,e]
theorem f104(j6:Int)(hh:How j6)(a b:Nd)(ha:wj a)(hb:wj b)(h:Heap):(mu K).fn 104 [bK p l,iV j6,a.av,b.av] h=some (.val (aX (values (au p.uses.l l.l) j6 a b)) h):=by
 obtain⟨j3,k,e1,e4,e6,e7,e9⟩:=WQ p l j6 hh a b h;rw[aC (KX _ _ _) Zc NH (by simp[vQ])];have lO:evC K (mu K) (.seq kH (.seq lF (.seq lG (.seq ig (.seq lH (.seq lI (.seq lJ lK))))))) ⟨cI 0 [bK p l,iV j6,a.av,b.av],[]::h⟩ =
   goS K (mu K) (.seq ig (.seq lH (.seq lI (.seq lJ lK)))) (evC K (mu K) (.seq kH (.seq lF lG)) ⟨cI 0 [bK p l,iV j6,a.av,b.av],[]::h⟩):=by
  simp only[dm];generalize evC K (mu K) kH ⟨cI 0 [bK p l,iV j6,a.av,b.av],[]::h⟩=s0;simp only[lQ]
 rw[lO,k,bk];unfold values;by_cases c:a.k≠9∧b.k=9
 ·rw[if_pos c]at e1 e9⊢;rw[if_pos c];exact PN p hp l hl hr _ (uR hh) b a ha h j3 e1 e4 e6 e7 e9
 ·rw[if_neg c]at e1 e9⊢;rw[if_neg c];exact PN p hp l hl hr _ hh a b hb h j3 e1 e4 e6 e7 e9
end
theorem NI:nr.body=.code (.seq nj (.seq oQ (.seq dg (.seq dL (.seq dP (.seq dQ (.seq dR (.seq fG (.seq uj (.seq xz (.seq jK (.seq jL (.seq jM (.seq jN (.seq jO (.seq oU (.seq oV oW))))))))))))))))):=rfl
abbrev z7:AV:=.agg [iV 0,iV 0,.str [],.str [],.ay,iV 0,.ay]
structure E82 (j3:Env)(b0:Loc)(j6:Int)(n:Nat):Prop where
 g0:get j3 0=.ptr b0 0
 g1:get j3 1=iV j6
 g6:get j3 6=.ptr (n,0) 0
 g7:get j3 7=.ptr (n,1) 0
 g8:get j3 8=.ptr (n,2) 0
abbrev F82(a b:Nd):List Blk:=[.box 90 false a.av,.box 90 false b.av,.box 185 false z7]
section
variable(p:Po)(hp:Sz p)(l:Sl Sc)(hl:okL l)(b0:Loc)(h:Heap)
theorem WR(j6:Int)(hh:How j6)(a b:Nd)(lb:b0.1<h.length) :
  ∃j3',evC K (mu K) (.seq nj oQ) ⟨cI 0 [.ptr b0 0,iV j6,a.av,b.av],[]::h⟩=some (.norm,⟨j3',(if a.k≠9∧b.k=9 then F82 b a else F82 a b)::h⟩) ∧
   E82 j3' b0 (if a.k≠9∧b.k=9 then cN j6 else j6) h.length:=by
 have n1:(b0.1=h.length)=False:=eq_false (by omega);have qa:=ak _ aP a.kids;have qb:=ak _ aP b.kids;have km:=λh=>f191 j6 hh h
 have mk:∀{j3:Env} {j6:Int},(get j3 0=.ptr b0 0∧get j3 1=iV j6∧get j3 6=.ptr (h.length,0) 0∧get j3 7=.ptr (h.length,1) 0∧get j3 8=.ptr (h.length,2) 0)->E82 j3 b0 j6 h.length:=λ⟨a,b,c,d,e⟩=>⟨a,b,c,d,e⟩
 by_cases c:a.k=9
 ·have d:¬ (a.k≠9∧b.k=9):=λq=>q.1 c
  simp only[if_neg d]
  suffices ∃j3',_∧_ from let ⟨e,x,y⟩:=this;⟨e,x,mk y⟩
  simp[nj,oQ,c]
 ·by_cases c2:b.k=9
  ·simp only[if_pos (show a.k≠9∧b.k=9 from⟨c,c2⟩)]
   suffices ∃j3',_∧_ from let ⟨e,x,y⟩:=this;⟨e,x,mk y⟩
   have c2':(b.k=9)=True:=eq_true c2;simp[nj,oQ,KL,aa,qa,qb,km,c,c2']
  ·have d:¬ (a.k≠9∧b.k=9):=λq=>c2 q.2
   simp only[if_neg d]
   suffices ∃j3',_∧_ from let ⟨e,x,y⟩:=this;⟨e,x,mk y⟩
   simp[nj,oQ,c,c2]
noncomputable abbrev R82:CC:=.seq uj (.seq xz (.seq jK (.seq jL (.seq jM (.seq jN (.seq jO (.seq oU (.seq oV oW))))))))
def late(fd:Nd->Pol.Fd)(a b:Nd):Prop:=¬ (a.k=10∧b.k=10)∧¬ (a.k=11∧b.k=11)∧¬ b.k=10∧¬ (fd a).kind=1∧¬ (a.nm=b.nm∧a.attr=b.attr)
include hp hl
theorem WS(j6:Int)(hh:How j6)(a b:Nd)(PO:wj b)(hb:hget h b0=some (.box 181 false (bK p l)))(lb:b0.1<h.length)(j3:Env)(he:E82 j3 b0 j6 h.length)(zW:¬ late (au p.uses.l l.l) a b) :
  goF nr.res (evC K (mu K) (.seq dg (.seq dL (.seq dP (.seq dQ (.seq dR (.seq fG R82)))))) ⟨j3,F82 a b::h⟩)=some (.val (bB (jZ (au p.uses.l l.l) j6 a b)) h):=by
 obtain⟨g0,g1,g6,g7,g8⟩:=he;have n1:(b0.1=h.length)=False:=eq_false (by omega);have qa:=ak _ aP a.kids;have qb:=ak _ aP b.kids;have k81:=λb h=>f145 b h
 have JN:=λa b h=>f192 j6 hh a b h
 have Dy:=λh=>f195 j6 a b h
 have Az:=λn h=>f196 n h
 have up0:∀F,hget (F::h) b0=some (.box 181 false (bK p l)):=λF=>by simp only[hget];rw[if_neg (by omega)];exact hb
 have pL:=λF=>f193 p hp l hl b0 (F::h) (up0 F) (by simp only[Io];omega) a
 have TA:=λhb F=>f194 p hp l hl b0 j6 hh a b.num hb (F::h) (up0 F) (by simp only[Io];omega)
 unfold jZ;unfold late at zW;generalize hB:bounded (au p.uses.l l.l) j6 a b.num=BB at *
 generalize au p.uses.l l.l a=f at *
 have qf:=ak _ bD f.words;by_cases c1:a.k=10∧b.k=10
 ·rw[if_pos c1];have a1:(a.k=10)=True:=eq_true c1.1;have a2:(b.k=10)=True:=eq_true c1.2;simp[dg,nr,KL,aa,g1,g6,g7,g8,k81,JN,a1,a2,cB,rK,rN,rS,lv]
 rw[if_neg c1];by_cases c2:a.k=11∧b.k=11
 ·rw[if_pos c2];have a0:(a.k=10)=False:=eq_false (by omega);have a1:(a.k=11)=True:=eq_true c2.1;have a2:(b.k=11)=True:=eq_true c2.2;simp[dg,dL,nr,KL,aa,g1,g6,g7,g8,k81,a0,a1,a2,cB,rK,rN,rS,lv]
 rw[if_neg c2];by_cases c3:b.k=10
 ·rw[if_pos c3];have a0:(a.k=10)=False:=eq_false (λe=>c1 ⟨e,c3⟩);have a2:(b.k=10)=True:=eq_true c3;have b11:(b.k=11)=False:=eq_false (by omega);have TA:=TA (PO c3);by_cases a11:a.k=11
  ·have JO:(a.k=11)=True:=eq_true a11;simp[dg,dL,dP,dQ,nr,KL,aa,g0,g1,g6,g7,g8,pL,TA,a0,a2,JO,b11]
  ·simp[dg,dL,dP,dQ,nr,KL,aa,g0,g1,g6,g7,g8,pL,TA,a0,a2,a11]
 rw[if_neg c3];have b10:(b.k=10)=False:=eq_false c3;have go:∀(x:Cd),(∀(H11:(a.k=11∧b.k=11)=False),goF nr.res (goS K (mu K) (.seq dR (.seq fG R82)) (evC K (mu K) (.seq dg (.seq dL (.seq dP dQ))) ⟨j3,F82 a b::h⟩))=some (.val (bB x) h)) ->
   goF nr.res (evC K (mu K) (.seq dg (.seq dL (.seq dP (.seq dQ (.seq dR (.seq fG R82)))))) ⟨j3,F82 a b::h⟩)=some (.val (bB x) h):=λx hx=>by
  rw[<-hx (eq_false c2)];simp only[dm];generalize evC K (mu K) dg ⟨j3,F82 a b::h⟩=s0;simp only[lQ]
 have mid:∃j3',evC K (mu K) (.seq dg (.seq dL (.seq dP dQ))) ⟨j3,F82 a b::h⟩=some (.norm,⟨j3',(F82 a b++[.box 50 false f.av])::h⟩)∧get j3' 0=.ptr b0 0∧get j3' 1=iV j6∧get j3' 6=.ptr (h.length,0) 0∧get j3' 7=.ptr (h.length,1) 0∧get j3' 8=.ptr (h.length,2) 0∧get j3' 9=.ptr (h.length,3) 0:=by
  by_cases a10:a.k=10
  ·have PR:(a.k=10)=True:=eq_true a10;have a11:(a.k=11)=False:=eq_false (by omega);simp[dg,dL,dP,dQ,KL,aa,g0,g1,g6,g7,g8,pL,PR,a11,b10]
  ·by_cases a11:a.k=11
   ·have JO:(a.k=11)=True:=eq_true a11;have b11:(b.k=11)=False:=eq_false (λe=>c2 ⟨a11,e⟩);simp[dg,dL,dP,dQ,KL,aa,g0,g1,g6,g7,g8,pL,a10,JO,b11,b10]
   ·simp[dg,dL,dP,dQ,KL,aa,g0,g1,g6,g7,g8,pL,a10,a11,b10]
 obtain⟨j3',km,e0,e1,e6,e7,e8,e9⟩:=mid;refine go _ λ_=>?_
 rw[km,bk];by_cases c4:f.kind=1
 ·rw[if_pos c4];have c4':(f.kind=1)=True:=eq_true c4;by_cases w1:f.words.l.length=1
  ·rw[if_pos (.inl w1)];simp[dR,nr,KL,aa,e1,e8,e9,k81,c4',w1,cB,rK,rN,rS,lv]
  ·have w1':((f.words.l.length:Int)=1)=False:=by simp;omega
   by_cases b9:b.k=9
   ·have b9':(b.k=9)=True:=eq_true b9;by_cases e10:a.nm=b.nm
    ·have NJ:(a.nm=b.nm)=True:=eq_true e10;by_cases e11:a.attr=b.attr
     ·rw[if_pos (.inr ⟨b9,e10,e11⟩)];have aes:(a.attr=b.attr)=True:=eq_true e11;simp[dR,nr,KL,aa,e1,e6,e7,e8,e9,k81,c4',w1',b9',NJ,aes,cB,rK,rN,rS,lv]
     ·rw[if_neg (λq=>q.elim w1 λr=>e11 r.2.2)];simp[dR,nr,KL,aa,e1,e6,e7,e8,e9,qa,qb,Dy,Az,c4',w1',b9',NJ,e11,dV,rK,rN,rS,lv]
    ·rw[if_neg (λq=>q.elim w1 λr=>e10 r.2.1)];simp[dR,nr,KL,aa,e1,e6,e7,e8,e9,qa,qb,Dy,Az,c4',w1',b9',e10,dV,rK,rN,rS,lv]
   ·rw[if_neg (λq=>q.elim w1 λr=>b9 r.1)];simp[dR,nr,KL,aa,e1,e6,e7,e8,e9,qa,qb,Dy,Az,c4',w1',b9,dV,rK,rN,rS,lv]
 rw[if_neg c4];by_cases c5:a.nm=b.nm∧a.attr=b.attr
 ·rw[if_pos c5];have a1:(a.nm=b.nm)=True:=eq_true c5.1;have a2:(a.attr=b.attr)=True:=eq_true c5.2;simp[dR,fG,nr,KL,aa,e1,e6,e7,e8,e9,k81,JN,c4,a1,a2,cB,rK,rN,rS,lv]
 ·exact absurd ⟨c1,c2,c3,c4,c5⟩ zW
theorem WT(j6:Int)(a b:Nd)(hb:hget h b0=some (.box 181 false (bK p l)))(lb:b0.1<h.length)(j3:Env)(he:E82 j3 b0 j6 h.length)(zW:late (au p.uses.l l.l) a b) :
  ∃j3',evC K (mu K) (.seq dg (.seq dL (.seq dP (.seq dQ (.seq dR fG))))) ⟨j3,F82 a b::h⟩=some (.norm,⟨j3',(F82 a b++[.box 50 false (au p.uses.l l.l a).av])::h⟩)∧E82 j3' b0 j6 h.length:=by
 obtain⟨g0,g1,g6,g7,g8⟩:=he;obtain⟨c1,c2,c3,c4,c5⟩:=zW;have n1:(b0.1=h.length)=False:=eq_false (by omega);have qa:=ak _ aP a.kids;have qb:=ak _ aP b.kids;have up0:∀F,hget (F::h) b0=some (.box 181 false (bK p l)):=λF=>by simp only[hget];rw[if_neg (by omega)];exact hb
 have pL:=λF=>f193 p hp l hl b0 (F::h) (up0 F) (by simp only[Io];omega) a
 generalize au p.uses.l l.l a=f at *
 have qf:=ak _ bD f.words;have b10:(b.k=10)=False:=eq_false c3;have mk:∀{j3:Env} {j6:Int},(get j3 0=.ptr b0 0∧get j3 1=iV j6∧get j3 6=.ptr (h.length,0) 0∧get j3 7=.ptr (h.length,1) 0∧get j3 8=.ptr (h.length,2) 0)->E82 j3 b0 j6 h.length:=λ⟨a,b,c,d,e⟩=>⟨a,b,c,d,e⟩
 suffices ∃j3',_∧_ from let ⟨e,x,y⟩:=this;⟨e,x,mk y⟩
 by_cases e10:a.nm=b.nm
 ·have e11:¬ a.attr=b.attr:=λe=>c5 ⟨e10,e⟩
  have NJ:(a.nm=b.nm)=True:=eq_true e10;by_cases a10:a.k=10
  ·have PR:(a.k=10)=True:=eq_true a10;have a11:(a.k=11)=False:=eq_false (by omega);simp[dg,dL,dP,dQ,dR,fG,KL,aa,g0,g1,g6,g7,g8,pL,PR,a11,b10,c4,NJ,e11]
  ·by_cases a11:a.k=11
   ·have JO:(a.k=11)=True:=eq_true a11;have b11:(b.k=11)=False:=eq_false (λe=>c2 ⟨a11,e⟩);simp[dg,dL,dP,dQ,dR,fG,KL,aa,g0,g1,g6,g7,g8,pL,a10,JO,b11,b10,c4,NJ,e11]
   ·simp[dg,dL,dP,dQ,dR,fG,KL,aa,g0,g1,g6,g7,g8,pL,a10,a11,b10,c4,NJ,e11]
 ·by_cases a10:a.k=10
  ·have PR:(a.k=10)=True:=eq_true a10;have a11:(a.k=11)=False:=eq_false (by omega);simp[dg,dL,dP,dQ,dR,fG,KL,aa,g0,g1,g6,g7,g8,pL,PR,a11,b10,c4,e10]
  ·by_cases a11:a.k=11
   ·have JO:(a.k=11)=True:=eq_true a11;have b11:(b.k=11)=False:=eq_false (λe=>c2 ⟨a11,e⟩);simp[dg,dL,dP,dQ,dR,fG,KL,aa,g0,g1,g6,g7,g8,pL,a10,JO,b11,b10,c4,e10]
   ·simp[dg,dL,dP,dQ,dR,fG,KL,aa,g0,g1,g6,g7,g8,pL,a10,a11,b10,c4,e10]
end
