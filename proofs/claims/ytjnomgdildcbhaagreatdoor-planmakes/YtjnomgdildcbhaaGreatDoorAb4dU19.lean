/-
  The plan of a policy: the program's function Of.
-/
import Derived.Test.YtjnomgdildcbhaaGreatDoorAb4dS40
import Derived.Test.YtjnomgdildcbhaaGreatDoorAb4dP101
import Derived.Test.YtjnomgdildcbhaaGreatDoorAb4dT1
import Derived.Test.YtjnomgdildcbhaaGreatDoorAbPlan
import Derived.Test.YtjnomgdildcbhaaGreatDoorAb4dS21
import Derived.Test.YtjnomgdildcbhaaGreatDoorAb4dP10
import Derived.Test.YtjnomgdildcbhaaGreatDoorAb4dQ22
set_option linter.all false
set_option maxRecDepth 100000
set_option maxHeartbeats 4000000
namespace Go.Ab.Pn
open Go.Ab.Pol
section
variable(p:Po)(l:Sl Sc)(q:Po)(h:Heap)(D C:List Pc)(R:List Blk)(es:List (AV×AV))(A S:List Pt)
theorem Mq(j3:Env)(f:List Blk):rQ K5 (mu K5) 36 [.ptr (h.length,2) 0,.ptr (h.length,3) 0] none (f::h)=some (f::h):=by
 have e:K5.dfn 36=some d36:=aa2;unfold rQ;rw[e];simp[d36]
theorem Mr(G:AV)(e:Int)(j3:Env)(x4:get j3 4=.ptr (h.length,2) 0)(x5:get j3 5=.ptr (h.length,3) 0) :
  Dz K5 c12.res (some (.ret,⟨j3,(OfG p l (.agg [.ay,.ay,.ay,.ay,.ay]) e q q.nodes es D C A S G h.length++R)::h⟩,some (36,[.ptr (h.length,2) 0,.ptr (h.length,3) 0])))=some (.val (.tup [zPl.av,iV e]) h):=by
 rw[JZ];simp only[Dz,wN,Mq h j3];simp[c12,x4,x5,OfG]
theorem XF(F:Option Fm)(j3:Env)(x4:get j3 4=.ptr (h.length,2) 0)(x5:get j3 5=.ptr (h.length,3) 0) :
  Dz K5 c12.res (some (.ret,⟨j3,(OfG p l (.agg [.own (h.length,6) D.length,.own (h.length,7) C.length,.own (h.length,8) A.length,(bf F).avS Gt.av,.own (h.length,9) S.length]) 0 q q.nodes es D C A S ((bf F).avS Gt.av) h.length++R)::h⟩,some (36,[.ptr (h.length,2) 0,.ptr (h.length,3) 0]))) =
   some (.val (.tup [(⟨⟨false,D⟩,⟨false,C⟩,⟨false,A⟩,bf F,⟨false,S⟩⟩:Pl).av,iV 0]) h):=by
 have ev:∀(α:Type) (av:α->AV) (L:List α),(⟨false,L⟩:Sl α).avS av=.lst (L.map av):=fun α av L=>lR _
 have ge:∀f,((bf F).avS Gt.av).aO f=true:=λf=>oh f _ _
 have gv:∀f H,((bf F).avS Gt.av).view f H=some ((bf F).avS Gt.av,H):=λf H=>IJ f _ _ _
 obtain⟨t1,z1,h1,_⟩:=pO D;obtain⟨t2,z2,h2,_⟩:=pO C;obtain⟨t3,z3,h3,_⟩:=jD A;obtain⟨t4,z4,h4,_⟩:=jD S;simp only[Dz,wN,Mq h j3];show _=some (Out.val (.tup [.agg [(⟨false,D⟩:Sl Pc).avS Pc.av,(⟨false,C⟩:Sl Pc).avS Pc.av,(⟨false,A⟩:Sl Pt).avS Pt.av,(bf F).avS Gt.av,(⟨false,S⟩:Sl Pt).avS Pt.av],iV 0]) h);rw[ev,ev,ev,ev];generalize (bf F).avS Gt.av=G at *
 simp[c12,x4,x5,OfG,mkG,h1,h2,h3,h4,ge,gv]
theorem Ui(G:AV)(gc:G.isAgg=false)(gd:G.cells=[G])(ge:∀f,G.aO f=true)(j3:Env)(x4:get j3 4=.ptr (h.length,2) 0)(x5:get j3 5=.ptr (h.length,3) 0)(x8:get j3 8=.ptr (h.length,10) 0) :
  ∃j3',evC K5 (mu K5) (.seq qI qJ) ⟨j3,(OfG p l (.agg [.ay,.ay,.ay,.ay,.ay]) 0 q q.nodes es D C A S G h.length++R)::h⟩=some (.ret,⟨j3',(OfG p l (.agg [.own (h.length,6) D.length,.own (h.length,7) C.length,.own (h.length,8) A.length,G,.own (h.length,9) S.length]) 0 q q.nodes es D C A S G h.length++R)::h⟩) ∧
   get j3' 4=.ptr (h.length,2) 0∧get j3' 5=.ptr (h.length,3) 0:=by
 simp[qI,qJ,OfG,mkG,x4,x5,x8,ge]
theorem Q7(hA:A.length<=100000)(hb:∀a∈A,-4611686018427387904<=a.hi-a.lo∧a.hi-a.lo<=4611686018427387904)(G:AV)(j3:Env)(x4:get j3 4=.ptr (h.length,2) 0)(x5:get j3 5=.ptr (h.length,3) 0)(x8:get j3 8=.ptr (h.length,10) 0) :
  (A.any far=false->∃j3' X',evC K5 (mu K5) mW ⟨j3,(OfG p l (.agg [.ay,.ay,.ay,.ay,.ay]) 0 q q.nodes es D C A S G h.length++R)::h⟩=some (.norm,⟨j3',(OfG p l (.agg [.ay,.ay,.ay,.ay,.ay]) 0 q q.nodes es D C A S G h.length++(R++X'))::h⟩) ∧
   get j3' 4=.ptr (h.length,2) 0∧get j3' 5=.ptr (h.length,3) 0∧get j3' 8=.ptr (h.length,10) 0) ∧
  (A.any far=true->∃j3' X',evC K5 (mu K5) mW ⟨j3,(OfG p l (.agg [.ay,.ay,.ay,.ay,.ay]) 0 q q.nodes es D C A S G h.length++R)::h⟩=some (.ret,⟨j3',(OfG p l (.agg [.ay,.ay,.ay,.ay,.ay]) 2 q q.nodes es D C A S G h.length++(R++X'))::h⟩) ∧
   get j3' 4=.ptr (h.length,2) 0∧get j3' 5=.ptr (h.length,3) 0):=by
 obtain⟨k1,k2⟩:=Iq p l q h D C es A S G R hA hb A [] [] rfl;refine⟨λc=>?_,λc=>?_⟩
 ·obtain⟨j3',X',k,r⟩:=k1 c;refine⟨j3',X',?_,r⟩;generalize hX:OfG p l (.agg [.ay,.ay,.ay,.ay,.ay]) 0 q q.nodes es D C A S G h.length++(R++X')=X at *
  simp only[afz,OfG,mkG]at k⊢;simp at k;simp[mW,x4,x5,x8,k]
 ·obtain⟨j3',X',k,r⟩:=k2 c;refine⟨j3',X',?_,r⟩;generalize hX:OfG p l (.agg [.ay,.ay,.ay,.ay,.ay]) 2 q q.nodes es D C A S G h.length++(R++X')=X at *
  simp only[afz,OfG,mkG]at k⊢;simp at k;simp[mW,x4,x5,x8,k]
end
end Go.Ab.Pn
namespace Go.Ab.Pol
def Nar(a:Pt):Prop:=-17179869184<=a.lo∧a.lo<=17179869184∧-17179869184<=a.hi∧a.hi<=17179869184
section
variable{us:List Us}{l:List Sc}{j0:List Rf}{Q:Nd->Prop}
theorem Ms(hf:∀n,FdW (au us l n)){k num:Int}{vs:List Nd}(h:AtN us l Q k num vs):∀a∈iW j0 (au us l) k num vs,Nar a:=by
 obtain⟨x,y,r,rfl,kx,qx,qy,h7,h6,h67,hp⟩:=jT (j0:=j0) hf h;have sx:=IK (hf x);have sy:=IK (hf y);obtain⟨_,x1,x2,x3,x4⟩:=hf x;obtain⟨_,y1,y2,y3,y4⟩:=hf y;unfold jr at sx sy;intro a ha;generalize iW j0 (au us l) k num (x::y::r)=P at hp ha;cases hp with
 |range hk=>
  subst hk;obtain⟨rfl,lo,hi,rfl,rfl,k0⟩:=h7 rfl;rw[afO.1 ha];rcases h.2 with⟨q,_⟩|⟨_,_,x',lo',hi',ev,_,_,ew⟩
  ·exact absurd q (by decide)
  ·simp only[afH,bq,Nd.mk.injEq,and_true,true_and]at ev;obtain⟨rfl,rfl,rfl⟩:=ev;obtain⟨w1,w2,w3⟩:=mo ew;simp only[Nar,dM,bq,if_true,List.headD_cons];omega
 |const hk hy hn=>
  obtain⟨rfl,w,e⟩:=h6 hk;have c:=Oa hf w e hy;unfold jr at c;rw[afO.1 ha];simp only[Nar];omega
 |less hk hy hn e0 he hle=>
  rw[afO.1 ha];simp only[Nar];rcases hn with rfl|rfl<;>simp at he<;>omega
 |same hk hy hn h0=>
  rw[afO.1 ha];simp only[Nar];omega
 |off hk hy hn h0=>
  rw[afO.1 ha];simp only[Nar];omega
 |low hk hy hn h0 h1 h2=>
  rw[afO.1 ha];simp only[Nar];omega
 |high hk hy hn h0 h1 h2=>
  rw[afO.1 ha];simp only[Nar];omega
 |both hk hy hn h0 h1 h2=>
  simp only[afp,afZ,or_false]at ha;rcases ha with ha|ha<;>rw[ha]<;>simp only[Nar]<;>omega
mutual
theorem Q8(hf:∀n,FdW (au us l n)):∀c:Cd,NF us l Q c->∀a∈kQ j0 (au us l) c,Nar a
 |.atom k num vs,h,a,ha=>Ms hf h a ha
 |.gate j5 ks,h,a,ha=>sY hf ks (λc hc=>(eK.1 h.2.2.2 c hc).1) a ha
theorem sY(hf:∀n,FdW (au us l n)):∀cs:List Cd,(∀c∈cs,NF us l Q c)->∀a∈bF j0 (au us l) cs,Nar a
 | [],_,a,ha=>by simp[bF]at ha
 |c::cs,h,a,ha=>by
  simp only[bF,afR]at ha;rcases ha with ha|ha
  ·exact Q8 hf c (h c (by simp)) a ha
  ·exact sY hf cs (λd hd=>h d (by simp[hd])) a ha
end
theorem EC(hf:∀n,FdW (au us l n))(c:Cd)(h:NF us l Q c):∀a∈(fO j0 (au us l) c).1,Nar a:=by
 intro a ha;unfold fO at ha;split at ha
 ·simp at ha
 ·rename_i hw;cases c with
  |atom k num ns=>exact Ms hf h a ha
  |gate j5 ks=>
   have hk:∀c∈ks,NF us l Q c:=λc hc=>(eK.1 h.2.2.2 c hc).1
   simp only at ha;split at ha
   ·exact sY hf _ (λc hc=>hk c (Cx hc)) a ha
   ·exact sY hf _ hk a ha
theorem xH(c:Cd):3*(fO j0 (au us l) c).1.length<=2*c.size∧(fO j0 (au us l) c).2.1.length<=c.size:=by
 unfold fO;split
 ·refine⟨by simp,?_⟩;have:1<=c.size:=by cases c<;>simp[Cd.size]
  simpa using this
 ·cases c with
  |atom k num ns=>
   have:=IL j0 (au us l) k num ns;simp only[Cd.size];exact⟨this,by simp⟩
  |gate j5 ks=>
   simp only[Cd.size];have h1:=eI j0 (au us l) ks;have h2:=eI j0 (au us l) (narrow j0 (au us l) ks);have h3:=dS j0 (au us l) ks;have h4:(ks.filterMap (bH j0 (au us l))).length<=ks.length:=List.length_filterMap_le _ _;have h5:=cZ ks;split
   ·simp only;omega
   ·simp only[iO];omega
end
end Go.Ab.Pol
namespace Go.Ab.Pn
open Go.Ab.Pol
def bA(p:Po)(l:List Sc)(t:Tr):List Rf:=cS (aR p l t) (cu 0 (aN p l t))
def bC(p:Po)(l:List Sc)(t:Tr):List Pt×List Pt×Option Fm:=zP (bA p l t) (au p.uses.l l) (cE (aN p l t))
theorem Gf{K:Cfg}{O:Orc}{d:Nat}{q:POp}{c:CC}{s s':St}{g:FuncId}{cap:List AV}{ex:Ex}(e:evP q s.env=some (.fn (.func g) [] cap))(k:evC K O c { s with env:=set s.env d (.fn (.func g) [] cap) }=some (ex,s')) :
  evB K O (.dfr d q c) s=some (ex,s',some (g,cap)):=by simp only[evB,e,k]
def qT(p:Po)(l:List Sc)(t:Tr):Pl×Int:=
 if (eO p l t).2≠0 then (zPl,(eO p l t).2) else if (aN p l t).isF=true then (zPl,18)
 else if L8 (bC p l t).1 (bC p l t).2.1≠0 then (zPl,L8 (bC p l t).1 (bC p l t).2.1)
 else (⟨⟨false,p.az.l.map (pcR p.uses.l l)⟩,⟨false,(bA p l t).map (pcR p.uses.l l)⟩,⟨false,(bC p l t).1⟩,bf (bC p l t).2.2,⟨false,(bC p l t).2.1⟩⟩,0)
structure ach (p:Po)(l:List Sc)(t:Tr):Prop where
 ready:bz p l=0
 az:∀r∈p.az.l,(findF p.uses.l l r).isSome=true
 Nh:p.az.l.length<=64
 chk:chk (aR p l t)=0
 good:Pol.Good (aR p l t) (cu 0 (aN p l t))
 nf:NFp p.uses.l l (inR (bA p l t)) (cE (aN p l t))
 nodup:(bA p l t).Nodup
 found:∀r∈bA p l t,(findF p.uses.l l r).isSome=true
 eq:(eO p l t).1=aR p l t
theorem G3{p:Po}{l:List Sc}{t:Tr}(ht:Pol.chk p=0->Pol.Good p t)(h:(eO p l t).2=0):ach p l t:=by
 obtain⟨g,hF,h1,h2,h3⟩:=qU ht h;have hn:NFp p.uses.l l (FX p t) (aN p l t):=rJ g h1 (FY g.isT) false;obtain⟨t1,t2,t3⟩:=lg h1;obtain⟨n1,n2⟩:=TQ h1 h2 hn;exact⟨t1,by simpa using t2,(Ke (rI t1).1).1,h2,lZ h2,Xm h1 h2 hn,n1,n2,h3⟩
theorem BX{p:Po}{l:List Sc}{t:Tr}(ok:ach p l t)(hs:(aN p l t).size<=1000):(bA p l t).length<=1000:=by
 have h1:=HJ (aR p l t).nodes.l (ints (cu 0 (aN p l t)).pre);have h2:=ok.good.all;have h3:(aR p l t).nodes.l.length=(aN p l t).size:=lY 0 _;have h4:(ints (cu 0 (aN p l t)).pre).length=(cu 0 (aN p l t)).pre.length:=by simp[ints]
 have h5:bA p l t=kM (aR p l t).nodes.l (ints (cu 0 (aN p l t)).pre):=rfl;rw[h5];omega
theorem f12(p:Po)(hp:Sz p)(l:Sl Sc)(hl:okL l)(t:Tr)(ht:chk p=0->Pol.Good p t)(hn:p.nodes.l.length<=40)(h:Heap) :
  (mu K5).fn 12 [p.av,l.avS Sc.av] h=some (.val (.tup [(qT p l.l t).1.av,iV (qT p l.l t).2]) h):=by
 have k15:=λh=>JE (f15 p hp l hl t ht (size_le ht (by omega)) h)
 have hbd:(mu K5).fn 12 [p.av,l.avS Sc.av] h=Dz K5 c12.res (evB K5 (mu K5) c12.body ⟨cI 0 [p.av,l.avS Sc.av],[]::h⟩):=abC (KX5 _ _ _) (aa3 ady) (by simp[c12]);rw[hbd,Qt];obtain⟨j3,k1,e2,e3,e4,e5,e6⟩:=Xn p hp l hl h (eO p l.l t).1 (eO p l.l t).2 k15 (.seq qj (.seq vF (.seq vG (.dfr 43 (.mkF (.func 36) [] [(.t 4),(.t 5)]) (.seq tR (.seq tS (.seq tT (.seq tU (.seq mV (.seq lB (.seq mW (.seq qI qJ))))))))))));rw[k1];unfold qT;by_cases c1:(eO p l.l t).2=0
 case neg=>
  rw[if_pos c1];exact TR p l h _ _ c1 j3 ⟨e2,e3,e4,e5,e6⟩ _
 rw[if_neg (by simp[c1]),c1];have ok:=G3 ht c1;rw[ok.eq];obtain⟨g,hF,hty,_,_⟩:=qU ht c1;have hsz:(aN p l.l t).size<=380:=by
  have:=norm_le g l.l;omega
 have hq0:(aR p l.l t).root=0:=rfl;have hx:(aR p l.l t).nodes.l[0]?=some (cM 0 (aN p l.l t)):=xY 0 _;by_cases c2:(aN p l.l t).isF=true
 ·rw[if_pos c2];refine NY p l h _ _ hx hq0 ?_ j3 ⟨e2,e3,e4,e5,e6⟩ _;cases e:aN p l.l t with
  |gate j5 ks=>rw[e]at c2;exact absurd c2 (by simp[Cd.isF])
  |atom k num vs=>
   rw[e]at c2;simp only[cM,br];simpa[Cd.isF]using c2
 rw[if_neg c2];have hk1:(cM 0 (aN p l.l t)).k≠1:=λe=>by
  apply c2;cases q:aN p l.l t with
  |gate j5 ks=>rw[q]at e;simp[cM,cj]at e
  |atom k num vs=>
   rw[q]at e;simp only[cM,br]at e;subst e;rfl
 obtain⟨iZ,k2,hE,h7⟩:=Xo p l h _ _ hx hq0 hk1 j3 ⟨e2,e3,e4,e5,e6⟩ (.dfr 43 (.mkF (.func 36) [] [(.t 4),(.t 5)]) (.seq tR (.seq tS (.seq tT (.seq tU (.seq mV (.seq lB (.seq mW (.seq qI qJ)))))))));rw[k2];have hcap:evP (.mkF (.func 36) [] [(.t 4),(.t 5)]) iZ=some (.fn (.func 36) [] [.ptr (h.length,2) 0,.ptr (h.length,3) 0]):=by
  obtain⟨_,_,x4,x5,_⟩:=hE;simp[x4,x5]
 have hE2:E12 (set iZ 43 (.fn (.func 36) [] [.ptr (h.length,2) 0,.ptr (h.length,3) 0])) h.length:=hE;have h72:get (set iZ 43 (.fn (.func 36) [] [.ptr (h.length,2) 0,.ptr (h.length,3) 0])) 7=iV (cM 0 (aN p l.l t)).k:=h7;obtain⟨jA,k3,hF2⟩:=TS p l h (aR p l.l t) _ _ hE2 h72;obtain⟨FR,k4,y4,y5,y6,y7,y8,y9⟩:=Qu p l h hp hl ok.ready ok.az (by have:=ok.Nh;omega) (aR p l.l t) _ jA hF2;have hsq:Sz (aR p l.l t):=wO hp g (by omega);obtain⟨J2,k5,z4,z5,z6,z7,z8⟩:=Qw p hp l hl ok.ready (aR p l.l t) h (p.az.l.map (pcR p.uses.l l.l)) hsq ok.chk (cu 0 (aN p l.l t)) ok.good ok.nodup ok.found (BX ok (by omega)) _ FR y4 y5 y6 y7 y8 y9;have hfd:=sF ok.ready p.uses.l;have hnl:(aR p l.l t).nodes.l.length<=1000:=by
  have h3:(aR p l.l t).nodes.l.length=(aN p l.l t).size:=lY 0 _;omega
 have top:∃j3',evC K5 (mu K5) mV ⟨J2,(OfF p l (aR p l.l t) (aR p l.l t).nodes (flG h.length (gX p.uses.l l.l) 0 (bA p l.l t)) (p.az.l.map (pcR p.uses.l l.l)) ((bA p l.l t).map (pcR p.uses.l l.l)) [] [] h.length++RR h.length p.uses.l l.l 0 (bA p l.l t))::h⟩ =
   some (.norm,⟨j3',(OfG p l (.agg [.ay,.ay,.ay,.ay,.ay]) 0 (aR p l.l t) (aR p l.l t).nodes (flG h.length (gX p.uses.l l.l) 0 (bA p l.l t)) (p.az.l.map (pcR p.uses.l l.l)) ((bA p l.l t).map (pcR p.uses.l l.l)) (bC p l.l t).1 (bC p l.l t).2.1 ((bf (bC p l.l t).2.2).avS Gt.av) h.length++RR h.length p.uses.l l.l 0 (bA p l.l t))::h⟩) ∧
   get j3' 4=.ptr (h.length,2) 0∧get j3' 5=.ptr (h.length,3) 0∧get j3' 8=.ptr (h.length,10) 0:=by
  have lt:=jx (aN p l.l t);by_cases c3:(aN p l.l t).isT=true
  ·have ex:bC p l.l t=([],[],none):=by
    unfold bC zP;rw[lt.1,if_pos c3]
   rw[ex];have hk0:(cM 0 (aN p l.l t)).k=0:=by
    cases e:aN p l.l t with
    |gate j5 ks=>rw[e]at c3;simp[Cd.isT]at c3
    |atom k num vs=>
     rw[e]at c3;simpa[Cd.isT,cM,br]using c3
   rw[hk0]at z7;exact NZ p l (aR p l.l t) h _ _ _ _ J2 z4 z5 z7 z8
  ·have hnf:NF p.uses.l l.l (inR (bA p l.l t)) (cE (aN p l.l t)):=by
    rcases ok.nf with⟨b,e⟩|q
    ·exfalso;rw[e]at lt;cases b
     ·exact c2 (by rw[<-lt.2];rfl)
     ·exact c3 (by rw[<-lt.1];rfl)
    ·exact q
   have ex:bC p l.l t=fO (bA p l.l t) (au p.uses.l l.l) (cE (aN p l.l t)):=by
    unfold bC zP;rw[lt.1,if_neg c3]
   rw[ex];have hk0:(cM 0 (aN p l.l t)).k≠0:=λe=>by
    apply c3;cases q:aN p l.l t with
    |gate j5 ks=>rw[q]at e;simp[cM,cj]at e
    |atom k num vs=>
     rw[q]at e;simp only[cM,br]at e;subst e;rfl
   have hat:At (aR p l.l t).nodes.l 0 (flat 0 (cE (aN p l.l t))):=by
    rw[sP];exact Ga _
   have k39:=f39 (l:=l.l) (aR p l.l t).nodes (bA p l.l t) (inR (bA p l.l t)) (λv hv=>hv) (h.length,10) (h.length,5) (h.length,8) (h.length,9) (.own (h.length,6) (p.az.l.map (pcR p.uses.l l.l)).length) (.own (h.length,7) ((bA p l.l t).map (pcR p.uses.l l.l)).length)
    (cE (aN p l.l t)) hnf hat (by rw[iF];exact hsz) _ (TU p l (aR p l.l t) (aR p l.l t).nodes h (p.az.l.map (pcR p.uses.l l.l)) ((bA p l.l t).map (pcR p.uses.l l.l)) p.uses.l (bA p l.l t) hfd hnl) [] [] (by simp) (by simp)
   rw[Im,Im,afq,afq]at k39;exact TV p l (aR p l.l t) h _ _ _ _ hq0 _ hk0 _ _ _ J2 z4 z5 z6 z7 z8 (JE k39)
 obtain⟨QF,k6,w4,w5,w8⟩:=top;have hx2:3*(bC p l.l t).1.length<=2*380∧(bC p l.l t).2.1.length<=380∧∀a∈(bC p l.l t).1,Nar a:=by
  have lt:=jx (aN p l.l t);have hs:=iF (aN p l.l t);unfold bC zP;split
  ·simp
  ·rename_i c3;have hnf:NF p.uses.l l.l (inR (bA p l.l t)) (cE (aN p l.l t)):=by
    rcases ok.nf with⟨b,e⟩|q
    ·exfalso;rw[e]at lt c3;cases b
     ·exact c2 (by rw[<-lt.2];rfl)
     ·exact c3 rfl
    ·exact q
   have:=xH (us:=p.uses.l) (l:=l.l) (j0:=bA p l.l t) (cE (aN p l.l t));exact⟨by omega,by omega,EC hfd _ hnf⟩
 obtain⟨hx3,hx4,hx5⟩:=hx2;have gc:((bf (bC p l.l t).2.2).avS Gt.av).isAgg=false:=sV _ _;have gd:((bf (bC p l.l t).2.2).avS Gt.av).cells=[(bf (bC p l.l t).2.2).avS Gt.av]:=sW _ _;have ge:∀f,((bf (bC p l.l t).2.2).avS Gt.av).aO f=true:=λf=>oh f _ _
 have start:evC K5 (mu K5) (.seq tR (.seq tS (.seq tT (.seq tU (.seq mV (.seq lB (.seq mW (.seq qI qJ)))))))) ⟨set iZ 43 (.fn (.func 36) [] [.ptr (h.length,2) 0,.ptr (h.length,3) 0]),OfP p l 0 (aR p l.l t)::h⟩ =
   evC K5 (mu K5) (.seq lB (.seq mW (.seq qI qJ))) ⟨QF,(OfG p l (.agg [.ay,.ay,.ay,.ay,.ay]) 0 (aR p l.l t) (aR p l.l t).nodes (flG h.length (gX p.uses.l l.l) 0 (bA p l.l t)) (p.az.l.map (pcR p.uses.l l.l)) ((bA p l.l t).map (pcR p.uses.l l.l)) (bC p l.l t).1 (bC p l.l t).2.1 ((bf (bC p l.l t).2.2).avS Gt.av) h.length++RR h.length p.uses.l l.l 0 (bA p l.l t))::h⟩:=by
  rw[QA,k3,bk,dm,k4,bk,dm,k5,bk,dm];have k6':=k6;unfold bA at k6' ⊢;rw[k6',bk]
 obtain⟨m1,m2⟩:=Qx p l (aR p l.l t) h (p.az.l.map (pcR p.uses.l l.l)) ((bA p l.l t).map (pcR p.uses.l l.l)) (RR h.length p.uses.l l.l 0 (bA p l.l t)) (flG h.length (gX p.uses.l l.l) 0 (bA p l.l t)) (bC p l.l t).1 (bC p l.l t).2.1 ((bf (bC p l.l t).2.2).avS Gt.av) QF w4 w5 w8 (by omega) (by omega);unfold L8;by_cases c4:256<(bC p l.l t).1.length∨64<(bC p l.l t).2.1.length
 ·rw[if_pos c4];obtain⟨QG,k7,v4,v5⟩:=m1 c4;rw[Gf hcap (by rw[start,dm,k7,A0]),if_pos (by decide)];exact Mr p l (aR p l.l t) h _ _ _ _ _ _ _ 6 QG v4 v5
 rw[if_neg c4];obtain⟨QG,k7,v4,v5,v8⟩:=m2 c4;obtain⟨q1,q2⟩:=Q7 p l (aR p l.l t) h (p.az.l.map (pcR p.uses.l l.l)) ((bA p l.l t).map (pcR p.uses.l l.l)) (RR h.length p.uses.l l.l 0 (bA p l.l t)) (flG h.length (gX p.uses.l l.l) 0 (bA p l.l t)) (bC p l.l t).1 (bC p l.l t).2.1 (by omega)
  (λa ha=>by have:=hx5 a ha;unfold Nar at this;omega) ((bf (bC p l.l t).2.2).avS Gt.av) QG v4 v5 v8
 cases c5:(bC p l.l t).1.any far with
 |true=>
  obtain⟨J4,X',k8,u4,u5⟩:=q2 c5;rw[Gf hcap (by rw[start,dm,k7,bk,dm,k8,A0]),if_pos rfl,if_pos (by decide)];exact Mr p l (aR p l.l t) h _ _ _ _ _ _ _ 2 J4 u4 u5
 |false=>
  obtain⟨J4,X',k8,u4,u5,u8⟩:=q1 c5;obtain⟨aeE,k9,s4,s5⟩:=Ui p l (aR p l.l t) h (p.az.l.map (pcR p.uses.l l.l)) ((bA p l.l t).map (pcR p.uses.l l.l)) (RR h.length p.uses.l l.l 0 (bA p l.l t)++X') (flG h.length (gX p.uses.l l.l) 0 (bA p l.l t)) (bC p l.l t).1 (bC p l.l t).2.1 _ gc gd ge J4 u4 u5 u8;rw[Gf hcap (by rw[start,dm,k7,bk,dm,k8,bk,k9]),if_neg (by decide)];exact XF p l (aR p l.l t) h _ _ _ _ _ _ (bC p l.l t).2.2 aeE s4 s5
abbrev AE(acc:List Rf):Blk:=.arr (if acc=[] then 0 else 54) (if acc=[] then 0 else 2) false (acc.map Rf.av)
theorem Mt(s:Rf):∀(l:List Rf) (b:Bool),iter (λ(b:Bool) (x:Rf)=>(.inl (b ||decide (x=s)):Bool ⊕ Unit)) b l=.inl (b ||decide (s∈l))
 | [],b=>by simp[iter]
 |x::l,b=>by
  simp only[iter];rw[Mt s l]
  congr 1
  by_cases e:x=s
  ·simp[e]
  ·have:¬ s=x:=λq=>e q.symm
   simp[e,this]
theorem Q9(p:Po)(n:Nd)(x:Rf)(acc:List Rf)(ha:acc.length<=1000)(M:AV)(i:Int)(b:Bool)(h:Heap) :
  ∃j3,(mu K).code (.af 4 [1,3,4,5,7,8,9] vI) ⟨[(1,.ptr (h.length,0) 0),(3,.own (h.length,1) acc.length),(4,M),(5,iV i),(7,.ptr (h.length,3) 0),(8,.bool b),(9,iV 0)],
   [.box 26 false p.av,AE acc,.box 90 false n.av,.box 54 false x.av]::h⟩=some (.exit 2,⟨j3,[.box 26 false p.av,AE acc,.box 90 false n.av,.box 54 false x.av]::h⟩) ∧
   get j3 1=.ptr (h.length,0) 0∧get j3 3=.own (h.length,1) acc.length∧get j3 4=M∧get j3 5=iV i∧get j3 7=.ptr (h.length,3) 0∧get j3 8=.bool (b ||decide (x∈acc)):=by
 have key:=aB (K:=K) (n:=4) (live:=[1,3,4,5,7,8,9]) (a:=vI) (ρ:=Unit) (λ(b:Bool) (y:Rf)=>.inl (b ||decide (y=x)))
  (λj4 b=>⟨[(1,.ptr (h.length,0) 0),(3,.own (h.length,1) acc.length),(4,M),(5,iV i),(7,.ptr (h.length,3) 0),(8,.bool b),(9,iV (j4.length:Int))],
   [.box 26 false p.av,AE acc,.box 90 false n.av,.box 54 false x.av]::h⟩) (λ_ _=>True)
  (λb o=>∃j3,o=some (.exit 2,⟨j3,[.box 26 false p.av,AE acc,.box 90 false n.av,.box 54 false x.av]::h⟩)∧get j3 1=.ptr (h.length,0) 0∧get j3 3=.own (h.length,1) acc.length∧get j3 4=M∧get j3 5=iV i∧get j3 7=.ptr (h.length,3) 0∧get j3 8=.bool b)
  (λ_ _=>False) acc
  (λj4 y r b hl _=>by
   obtain⟨h1,h2,w1⟩:=aA hl (by omega);have hne:acc≠[]:=by rw[hl];simp
   have h1n:j4.length<acc.length:=by rw[hl];simp
   have hgy:∀hh,(acc[j4.length]'hh)=y:=λhh=>by
    have:=h2;rw[afD hh]at this;injection this
   have qe:=Mg y x;simp only[Rf.cs]at qe;rw[aj];generalize (mu K).code _=F;clear hl;refine⟨λb' e=>⟨trivial,?_⟩,λ_ e=>by cases e⟩;injection e with e
   subst e;cases b
   ·simp[vI,h1,h1n,w1,hne,qe,hgy]
   ·simp[vI,h1,w1])
  (λb _=>by
   rw[aj];generalize (mu K).code _=F;simp[vI]) b trivial
 rw[Mt]at key;simpa using key.2
theorem Kf(acc:List Rf)(n:Nd):(n.k≠9∧kS acc n=acc)∨(n.k=9∧(⟨n.nm,n.attr⟩:Rf)∈acc∧kS acc n=acc)∨(n.k=9∧(⟨n.nm,n.attr⟩:Rf)∉acc∧kS acc n=acc++[⟨n.nm,n.attr⟩]):=by
 unfold kS;by_cases h1:n.k=9
 ·by_cases h2:(⟨n.nm,n.attr⟩:Rf)∈acc
  ·exact .inr (.inl ⟨h1,h2,by rw[if_pos h1,if_pos h2]⟩)
  ·exact .inr (.inr ⟨h1,h2,by rw[if_pos h1,if_neg h2]⟩)
 ·exact .inl ⟨h1,by rw[if_neg h1]⟩
theorem CS{α β ρ:Type}(g:β->α->β):∀(l:List α) (b:β),iter (λb x=>(.inl (g b x):β ⊕ ρ)) b l=.inl (l.foldl g b)
 | [],b=>rfl
 |x::l,b=>by simp only[iter,agq];exact CS g l (g b x)
theorem f41(p:Po)(hp:Sz p)(t:Tr)(g:Pol.Good p t)(h:Heap):(mu K).fn 41 [p.av] h=some (.val (.lst ((cS p t).map Rf.av)) h):=by
 have k25:=λh=>f94 p hp h
 rw[Cn g]at k25;have k76:=λh=>f95 p hp h
 have aeG:vis p.nodes.l 32 p.root true []=(0,ints t.pre):=by
  have:=Gg t (ns:=p.nodes.l) (f:=32) (c:=true) (l9:=[]) g.isT g.wf g.dep (by simpa using pR.2 g.nodup);rw[g.root]at this;simpa using this
 rw[aeG]at k76;simp only at k76;have hMS:(ints t.pre).map iV=t.subs.map λ(s:Tr)=>iV (s.i:Int):=by rw[gw,af0,af0];rfl
 rw[hMS]at k76;have hsl:t.subs.length=t.pre.length:=by rw[gw];simp
 have hpl:t.pre.length<=512:=by rw[g.all];exact g.sizes.1
 have q1:=λx:Nd=>ak _ aP x.kids
 have q2:=ak _ bX p.nodes;have key:=aB (K:=K) (n:=2) (live:=[1,3,4,5]) (a:=tF) (ρ:=Unit) (λ(acc:List Rf) (s:Tr)=>.inl (kS acc s.n))
  (λj4 acc=>⟨[(1,.ptr (h.length,0) 0),(3,.own (h.length,1) acc.length),(4,.lst (t.subs.map λ(s:Tr)=>iV (s.i:Int))),(5,iV (j4.length:Int))],[.box 26 false p.av,AE acc]::h⟩) (λj4 acc=>acc.length<=j4.length)
  (λacc o=>∃j3,o=some (.exit 0,⟨j3,[.box 26 false p.av,AE acc]::h⟩)∧get j3 3=.own (h.length,1) acc.length) (λ_ _=>False) t.subs
  (λj4 x r acc hl hacc=>by
   obtain⟨h1,h2,w1⟩:=aA hl (by omega);have hpre:j4.length<t.subs.length:=by rw[hl];simp
   have hxm:x∈t.subs:=by rw[hl];simp
   obtain⟨hxn,hxk⟩:=qY (jW g.isT x hxm);have hix:=λ(k:IntKind)=>cG (sz:=1) (l:=t.subs.map λ(s:Tr)=>iV (s.i:Int)) (k:=k) (j:=(j4.length:Int)) (v:=iV (x.i:Int)) (by omega) (by rw[afM,afy,h2];rfl) rfl
   have hiy:=iaP Nd.av 6 p.nodes x.i x.n (by simpa using hxn);have hll:(t.subs.map λ(s:Tr)=>iV (s.i:Int)).length=t.subs.length:=by simp
   have hal:acc.length<=1000:=by omega
   have r1:(acc.length+1)*32<=room:=by unfold room;omega
   have r2:acc.length+1<=room:=by unfold room;omega
   have hin:=λb=>Q9 p x.n ⟨x.n.nm,x.n.attr⟩ acc hal (.lst (t.subs.map λ(s:Tr)=>iV (s.i:Int))) (j4.length:Int) b h
   refine⟨λb' e=>?_,λ_ e=>by cases e⟩;injection e with e
   subst e;have hlen:=HI acc x.n;refine⟨by simp only[afr,afU];omega,?_⟩;rw[aj];generalize (mu K).code _=F;generalize (t.subs.map λ(s:Tr)=>iV (s.i:Int))=M at *
   clear hl;rcases Kf acc x.n with⟨c1,c2⟩|⟨c1,c2,c3⟩|⟨c1,c2,c3⟩
   ·rw[c2];obtain⟨j3,k,g1,g3,g4,g5,g7,g8⟩:=hin true;simp only[Bool.true_or]at g8;by_cases d:acc=[]
    ·simp only[AE,d,if_true,afw,iO]at k g3⊢;simp[tF,h1,hll,hix,hiy,w1,c1,k,g1,g3,g4,g5,g8,q1,q2]
    ·simp only[AE,d,if_false]at k g3⊢;simp[tF,h1,hll,hix,hiy,w1,c1,k,g1,g3,g4,g5,g8,q1,q2]
   ·rw[c3];obtain⟨j3,k,g1,g3,g4,g5,g7,g8⟩:=hin false;rw[decide_eq_true c2]at g8;simp only[Bool.or_true]at g8;have d:¬ acc=[]:=λe=>by rw[e]at c2;cases c2
    simp only[AE,d,if_false]at k g3⊢;simp[tF,h1,hll,hix,hiy,w1,c1,k,g1,g3,g4,g5,g8,q1,q2]
   ·rw[c3];obtain⟨j3,k,g1,g3,g4,g5,g7,g8⟩:=hin false;rw[decide_eq_false c2]at g8;simp only[Bool.or_false]at g8;by_cases d:acc=[]
    ·subst d;simp only[AE,if_true,afw,iO]at k g3⊢;simp[tF,h1,hll,hix,hiy,w1,c1,k,g1,g3,g4,g5,g7,g8,q1,q2,List.replicate,room]
    ·simp only[AE,d,if_false]at k g3⊢;simp[tF,h1,hll,hix,hiy,w1,c1,k,g1,g3,g4,g5,g7,g8,q1,q2,r1,r2,d,List.replicate])
  (λacc _=>by
   rw[aj];generalize (mu K).code _=F;have hll:(t.subs.map λ(s:Tr)=>iV (s.i:Int)).length=t.subs.length:=by simp
   generalize (t.subs.map λ(s:Tr)=>iV (s.i:Int))=M at *
   simp[tF,hll]) [] (by simp)
 rw[CS]at key;simp only[iO,afl]at key;have hr:t.subs.foldl (λacc s=>kS acc s.n) []=cS p t:=(FW g.isT).symm;rw[hr]at key;obtain⟨_,j3,k,g3⟩:=key;rw[aC (KX _ _ _) adF rfl (by simp[c41])];generalize (t.subs.map λ(s:Tr)=>iV (s.i:Int))=M at *
 generalize cS p t=R at *
 unfold AE at k;simp only[if_true,afw]at k;simp[c41,KL,aa,k25,k76,k,g3]
theorem Qz:c13.body=.code (.seq KP (.seq KQ (.seq DU (.seq KR (.seq DV (.seq KT (.seq KU (.seq KW (.seq Bh (.seq Bi (.seq xm (.seq Fl Fp)))))))))))):=rfl
theorem Ra(p:Po)(hp:Sz p)(l:Sl Sc)(hl:okL l)(hr:bz p l.l=0)(r:Rf)(hf:(findF p.uses.l l.l r).isSome=true):∃f:Pol.Fd,∀h:Heap,(mu K).fn 42 [p.av,l.avS Sc.av,r.av] h=some (.val (.tup [(pcR p.uses.l l.l r).av,f.av,iV 0]) h):=by
 cases e:findF p.uses.l l.l r with
 |none=>rw[e]at hf;cases hf
 |some w=>
  obtain⟨u,k,f⟩:=w;refine⟨f,λh=>?_⟩;have k42:=f42 p hp l hl r h;have e2:fY p l.l r=(some (u,k,f),0):=by
   unfold fY;rw[if_neg (by simp[hr]),e]
  rw[e2]at k42;rw[k42];unfold pcR;rw[e];rfl
abbrev zP5:AV:=.agg [.ay,.ay,.ay,.ay,.ay]
abbrev O13(p:Po)(q:Po)(l:Sl Sc)(j0:List Rf)(D C:List Pc)(n:Nat):List Blk:=[.box 26 false p.av,.box 36 false zP5,.box 26 false q.av,pcB D,pcB C,.arr 0 0 false [],.arr 0 0 false [],mkR q l j0 [.own (n,3) D.length,.own (n,4) C.length,.own (n,5) 0,.ay,.own (n,6) 0,.bool false]]
abbrev E13(l:Sl Sc)(k:Int)(n i t:Nat):Env:=[(1,l.avS Sc.av),(2,.ptr (n,0) 0),(4,.ptr (n,1) 0),(6,.ptr (n,2) 0),(8,iV k),(9,.ptr (n,7) 0),(t,iV (i:Int))]
theorem A5(l:List Pc):∃t z,pcB l=.arr t z false (l.map Pc.av)∧(z=0∨t=47∧z=2):=by
 cases l with
 |nil=>exact⟨0,0,rfl,.inl rfl⟩
 |cons i s=>exact⟨47,2,rfl,.inr ⟨rfl,rfl⟩⟩
theorem EJ(l:List Pc)(x:Pc):pcB (l++[x])=.arr 47 2 false (l.map Pc.av++[x.av]):=by
 cases l with
 |nil=>rfl
 |cons j s=>simp[pcB]
section
variable(p:Po)(hp:Sz p)(l:Sl Sc)(hl:okL l)(hr:bz p l.l=0)(q:Po)(j0:List Rf)(k:Int)(h:Heap)
include hp hl hr
theorem Kg(hq:p.az.l.length<=1000)(pr:List Rf)(r:Rf)(sr:List Rf)(hh:p.az.l=pr++r::sr)(hf:(findF p.uses.l l.l r).isSome=true)(D C:List Pc)(hD:D.length=pr.length) :
  (mu K).code (.af 8 [1,2,4,6,8,9,10] zG) ⟨E13 l k h.length pr.length 10,O13 p q l j0 D C h.length::h⟩ =
  (mu K).code (.af 8 [1,2,4,6,8,9,10] zG) ⟨E13 l k h.length (pr.length+1) 10,O13 p q l j0 (D++[pcR p.uses.l l.l r]) C h.length::h⟩:=by
 have hln:p.az.l.length=pr.length+(sr.length+1):=by rw[hh];simp
 obtain⟨f,k42⟩:=Ra p hp l hl hr r hf;have c1:((pr.length:Int)<(p.az.l.length:Int))=True:=eq_true (by omega);have c2:(pr.length<p.az.l.length)=True:=eq_true (by omega);have e1:=λ(q:IntKind)=>cK (av:=Rf.av) (sz:=2) (s:=p.az) (k:=q) (j:=(pr.length:Int)) (x:=r) (by omega) (by rw[afM,hh];simp) rfl
 have w1:=wrS (n:=pr.length) (by omega);have r1:(pr.length+1)*16<=room:=by unfold room;omega
 have r2:pr.length+1<=room:=by unfold room;omega
 have q1:=ak _ dI p.uses;have q2:=ak _ dz p.az;have q3:=ak _ bX p.nodes;have q4:=ak _ eo l;have q5:=ak _ bD f.words;obtain⟨ot,oz,ho,hz⟩:=A5 D;obtain⟨ct,cz,co,_⟩:=A5 C;have ho2:=EJ D (pcR p.uses.l l.l r);generalize pcR p.uses.l l.l r=x at *
 simp only[O13,E13];rw[show ((pr.length+1:Nat):Int)=(pr.length:Int)+1 by omega];rw[ho,ho2,co];simp only[afr,afU];rw[aj];generalize (mu K).code _=F;simp[zG,KL,aa,c1,e1,k42,w1,r1,r2,q1,q2,q3,hz,hD,List.replicate];rfl
theorem Kh(hq:j0.length<=1000)(pr:List Rf)(r:Rf)(sr:List Rf)(hh:j0=pr++r::sr)(hf:(findF p.uses.l l.l r).isSome=true)(D C:List Pc)(hC:C.length=pr.length) :
  (mu K).code (.af 8 [1,2,4,6,8,9,14] zH) ⟨E13 l k h.length pr.length 14,O13 p q l j0 D C h.length::h⟩ =
  (mu K).code (.af 8 [1,2,4,6,8,9,14] zH) ⟨E13 l k h.length (pr.length+1) 14,O13 p q l j0 D (C++[pcR p.uses.l l.l r]) h.length::h⟩:=by
 have hln:j0.length=pr.length+(sr.length+1):=by rw[hh];simp
 obtain⟨f,k42⟩:=Ra p hp l hl hr r hf;have c1:((pr.length:Int)<(j0.length:Int))=True:=eq_true (by omega);have c2:(pr.length<j0.length)=True:=eq_true (by omega);have e1:=λ(q:IntKind)=>cG (sz:=2) (l:=j0.map Rf.av) (k:=q) (j:=(pr.length:Int)) (v:=r.av) (by omega) (by rw[afM,afy,hh];simp) rfl
 have w1:=wrS (n:=pr.length) (by omega);have r1:(pr.length+1)*16<=room:=by unfold room;omega
 have r2:pr.length+1<=room:=by unfold room;omega
 have q1:=ak _ dI p.uses;have q2:=ak _ dz p.az;have q3:=ak _ bX p.nodes;have q4:=ak _ eo l;have q5:=ak _ bD f.words;have q6:AV.dh (j0.map Rf.av) (j0.map Rf.av)=true:=by
  have:=ak _ dz (⟨false,j0⟩:Sl Rf);simpa[Sl.avS,AV.beq]using this
 obtain⟨ot,oz,ho,hz⟩:=A5 C;obtain⟨ct,cz,co,_⟩:=A5 D;have ho2:=EJ C (pcR p.uses.l l.l r);generalize pcR p.uses.l l.l r=x at *
 simp only[O13,E13];rw[show ((pr.length+1:Nat):Int)=(pr.length:Int)+1 by omega];rw[ho,ho2,co];simp only[afr,afU];rw[aj];generalize (mu K).code _=F;simp[zH,KL,aa,c1,e1,k42,w1,r1,r2,q1,q2,q3,q6,hz,hC,List.replicate];rfl
end
def zf(j3:Env)(l:Sl Sc)(n:Nat):Prop:=get j3 1=l.avS Sc.av∧get j3 2=.ptr (n,0) 0∧get j3 4=.ptr (n,1) 0∧get j3 6=.ptr (n,2) 0
section
variable(p:Po)(hp:Sz p)(l:Sl Sc)(hl:okL l)(h:Heap)
include hp hl
theorem abD(q:Po)(e:Int)(k40:∀h,(mu K).fn 40 [p.av,l.avS Sc.av] h=some (.val (.tup [q.av,iV e]) h)) :
  ∃j3,evC K (mu K) (.seq KP KQ) ⟨cI 0 [p.av,l.avS Sc.av],[]::h⟩=some (.norm,⟨j3,[.box 26 false p.av,.box 36 false zP5,.box 26 false q.av]::h⟩)∧zf j3 l h.length∧get j3 7=iV e:=by
 have q1:=ak _ dI p.uses;have q2:=ak _ dz p.az;have q3:=ak _ bX p.nodes;simp[KP,KQ,zf,KL,aa,k40]
end
section
variable(p:Po)(l:Sl Sc)(h:Heap)(q:Po)
theorem TX(e:Int)(he:e≠0)(j3:Env)(hE:zf j3 l h.length)(h7:get j3 7=iV e)(r:CC) :
  goF c13.res (evC K (mu K) (.seq DU r) ⟨j3,[.box 26 false p.av,.box 36 false zP5,.box 26 false q.av]::h⟩)=some (.val (.tup [zP5,iV e]) h):=by
 obtain⟨e1,e2,e4,e6⟩:=hE;simp[DU,c13,e4,h7,he]
theorem abE(nd:Nd)(hx:q.nodes.l[0]?=some nd)(hq:q.root=0)(j3:Env)(hE:zf j3 l h.length)(h7:get j3 7=iV 0) :
  ∃j3',evC K (mu K) (.seq DU KR) ⟨j3,[.box 26 false p.av,.box 36 false zP5,.box 26 false q.av]::h⟩=some (.norm,⟨j3',[.box 26 false p.av,.box 36 false zP5,.box 26 false q.av]::h⟩)∧zf j3' l h.length∧get j3' 8=iV nd.k:=by
 obtain⟨e1,e2,e4,e6⟩:=hE;have hia:=λ(k':IntKind)=>cK (av:=Nd.av) (sz:=6) (s:=q.nodes) (k:=k') (j:=0) (x:=nd) (by omega) hx rfl
 simp[DU,KR,zf,e1,e2,e4,e6,h7,hq,hia]
theorem N0(j3:Env)(hE:zf j3 l h.length)(h8:get j3 8=iV 1)(r:CC) :
  goF c13.res (evC K (mu K) (.seq DV r) ⟨j3,[.box 26 false p.av,.box 36 false zP5,.box 26 false q.av]::h⟩)=some (.val (.tup [zP5,iV 18]) h):=by
 obtain⟨e1,e2,e4,e6⟩:=hE;simp[DV,c13,e4,h8]
theorem abF(j0:List Rf)(k:Int)(hk:k≠1)(k41:∀h,(mu K).fn 41 [q.av] h=some (.val (.lst (j0.map Rf.av)) h))(j3:Env)(hE:zf j3 l h.length)(h8:get j3 8=iV k) :
  ∃j3',evC K (mu K) (.seq DV KT) ⟨j3,[.box 26 false p.av,.box 36 false zP5,.box 26 false q.av]::h⟩=some (.norm,⟨j3',O13 p q l j0 [] [] h.length::h⟩)∧zf j3' l h.length∧get j3' 8=iV k∧get j3' 9=.ptr (h.length,7) 0:=by
 obtain⟨e1,e2,e4,e6⟩:=hE;have q1:=ak _ dI q.uses;have q2:=ak _ dz q.az;have q3:=ak _ bX q.nodes;simp[DV,KT,zf,KL,aa,e1,e2,e4,e6,h8,hk,k41,q1,q2,q3,pcB]
end
section
variable(p:Po)(hp:Sz p)(l:Sl Sc)(hl:okL l)(hr:bz p l.l=0)(q:Po)(j0:List Rf)(k:Int)(h:Heap)
include hp hl hr
def F13(j3:Env)(l:Sl Sc)(k:Int)(n:Nat):Prop:=zf j3 l n∧get j3 8=iV k∧get j3 9=.ptr (n,7) 0
theorem EK(hq:p.az.l.length<=1000)(hf:∀r∈p.az.l,(findF p.uses.l l.l r).isSome=true)(C:List Pc):∀(sr pr:List Rf),p.az.l=pr++sr->∃j3,
  (mu K).code (.af 8 [1,2,4,6,8,9,10] zG) ⟨E13 l k h.length pr.length 10,O13 p q l j0 (pr.map (pcR p.uses.l l.l)) C h.length::h⟩=some (.exit 0,⟨j3,O13 p q l j0 (p.az.l.map (pcR p.uses.l l.l)) C h.length::h⟩)∧F13 j3 l k h.length
 | [],pr,hh=>by
  rw[afz]at hh;rw[<-hh];rw[aj];generalize (mu K).code _=F;simp[zG,F13,zf]
 |r::sr,pr,hh=>by
  obtain⟨j3,ih,x⟩:=EK hq hf C sr (pr++[r]) (by simp[hh]);refine⟨j3,?_,x⟩;rw[<-ih,Kg p hp l hl hr q j0 k h hq pr r sr hh (hf r (by rw[hh];simp)) (pr.map (pcR p.uses.l l.l)) C (by simp),afE,afr,afU];rfl
theorem EL(hq:j0.length<=1000)(hf:∀r∈j0,(findF p.uses.l l.l r).isSome=true)(D:List Pc):∀(sr pr:List Rf),j0=pr++sr->∃j3,
  (mu K).code (.af 8 [1,2,4,6,8,9,14] zH) ⟨E13 l k h.length pr.length 14,O13 p q l j0 D (pr.map (pcR p.uses.l l.l)) h.length::h⟩=some (.exit 2,⟨j3,O13 p q l j0 D (j0.map (pcR p.uses.l l.l)) h.length::h⟩)∧F13 j3 l k h.length
 | [],pr,hh=>by
  rw[afz]at hh;rw[<-hh];rw[aj];generalize (mu K).code _=F;simp[zH,F13,zf]
 |r::sr,pr,hh=>by
  obtain⟨j3,ih,x⟩:=EL hq hf D sr (pr++[r]) (by simp[hh]);refine⟨j3,?_,x⟩;rw[<-ih,Kh p hp l hl hr q j0 k h hq pr r sr hh (hf r (by rw[hh];simp)) D (pr.map (pcR p.uses.l l.l)) (by simp),afE,afr,afU];rfl
end
abbrev O14(p:Po)(q:Po)(l:Sl Sc)(j0:List Rf)(D C:List Pc)(A S:List Pt)(G P5:AV)(n:Nat):List Blk:=[.box 26 false p.av,.box 36 false P5,.box 26 false q.av,pcB D,pcB C,ptB A,ptB S,mkR q l j0 [.own (n,3) D.length,.own (n,4) C.length,.own (n,5) A.length,G,.own (n,6) S.length,.bool false]]
section
variable(p:Po)(hp:Sz p)(l:Sl Sc)(hl:okL l)(hr:bz p l.l=0)(q:Po)(j0:List Rf)(k:Int)(h:Heap)
include hp hl hr
theorem QB(hq:p.az.l.length<=1000)(hf:∀r∈p.az.l,(findF p.uses.l l.l r).isSome=true)(j3:Env)(hE:F13 j3 l k h.length):∃j3',
  evC K (mu K) KU ⟨j3,O13 p q l j0 [] [] h.length::h⟩=some (.norm,⟨j3',O13 p q l j0 (p.az.l.map (pcR p.uses.l l.l)) [] h.length::h⟩)∧F13 j3' l k h.length:=by
 obtain⟨j3',k1,x⟩:=EK p hp l hl hr q j0 k h hq hf [] p.az.l [] rfl;obtain⟨⟨e1,e2,e4,e6⟩,e8,e9⟩:=hE;refine⟨j3',?_,x⟩;generalize hX:O13 p q l j0 (p.az.l.map (pcR p.uses.l l.l)) [] h.length=X at *
 simp only[O13,E13,pcB,afw,iO]at k1⊢;simp at k1;simp[KU,e1,e2,e4,e6,e8,e9,k1]
theorem QC(hq:j0.length<=1000)(hf:∀r∈j0,(findF p.uses.l l.l r).isSome=true)(D:List Pc)(j3:Env)(hE:F13 j3 l k h.length):∃j3',
  evC K (mu K) KW ⟨j3,O13 p q l j0 D [] h.length::h⟩=some (.norm,⟨j3',O13 p q l j0 D (j0.map (pcR p.uses.l l.l)) h.length::h⟩)∧F13 j3' l k h.length:=by
 obtain⟨j3',k1,x⟩:=EL p hp l hl hr q j0 k h hq hf D j0 [] rfl;obtain⟨⟨e1,e2,e4,e6⟩,e8,e9⟩:=hE;refine⟨j3',?_,x⟩;generalize hX:O13 p q l j0 D (j0.map (pcR p.uses.l l.l)) h.length=X at *
 simp only[O13,E13,pcB,afw,iO]at k1⊢;simp at k1;simp[KW,e1,e2,e4,e6,e8,e9,k1]
end
section
variable(p:Po)(l:Sl Sc)(q:Po)(j0:List Rf)(h:Heap)(D C:List Pc)(A S:List Pt)
theorem QE(hq0:q.root=0)(k:Int)(hk:k≠0)(F:Option Fm)(j3:Env)(hE:F13 j3 l k h.length)
  (k43:(mu K).fn 43 [.ptr (h.length,7) 0,iV 0,.bool true] (O13 p q l j0 D C h.length::h)=some (.val (oA F) (O14 p q l j0 D C A S .ay zP5 h.length::h))):∃j3',
  evC K (mu K) Bh ⟨j3,O13 p q l j0 D C h.length::h⟩=some (.norm,⟨j3',O14 p q l j0 D C A S ((bf F).avS Gt.av) zP5 h.length::h⟩)∧get j3' 4=.ptr (h.length,1) 0∧get j3' 9=.ptr (h.length,7) 0:=by
 obtain⟨⟨e1,e2,e4,e6⟩,e8,e9⟩:=hE;rw[Ip]at k43;have gc:((bf F).avS Gt.av).isAgg=false:=sV _ _;have gd:((bf F).avS Gt.av).cells=[(bf F).avS Gt.av]:=sW _ _;have ge:∀f,((bf F).avS Gt.av).aO f=true:=λf=>oh f _ _
 generalize (bf F).avS Gt.av=G at *
 simp only[O13,O14]at k43⊢;simp[Bh,KL,aa,e4,e6,e8,e9,hk,hq0,k43,ge]
theorem QD(j3:Env)(hE:F13 j3 l 0 h.length):∃j3',
  evC K (mu K) Bh ⟨j3,O13 p q l j0 D C h.length::h⟩=some (.norm,⟨j3',O14 p q l j0 D C [] [] ((bf none).avS Gt.av) zP5 h.length::h⟩)∧get j3' 4=.ptr (h.length,1) 0∧get j3' 9=.ptr (h.length,7) 0:=by
 obtain⟨⟨e1,e2,e4,e6⟩,e8,e9⟩:=hE;have e:(bf none).avS Gt.av=.ay:=rfl;rw[e];simp[Bh,e4,e8,e9,ptB]
variable(G:AV)
theorem J3(j3:Env)(x4:get j3 4=.ptr (h.length,1) 0)(x9:get j3 9=.ptr (h.length,7) 0)(c:256<A.length∨64<S.length)(r:CC) :
  goF c13.res (evC K (mu K) (.seq Bi r) ⟨j3,O14 p q l j0 D C A S G zP5 h.length::h⟩)=some (.val (.tup [zP5,iV 6]) h):=by
 simp only[O14];by_cases c1:256<A.length
 ·have c1':((256:Int)<(A.length:Int))=True:=eq_true (by omega);simp[Bi,c13,x4,x9,c1']
 ·have c1':((256:Int)<(A.length:Int))=False:=eq_false (by omega);have c2:64<S.length:=by omega
  have c2':((64:Int)<(S.length:Int))=True:=eq_true (by omega);simp[Bi,c13,x4,x9,c1',c2']
theorem N1(j3:Env)(x4:get j3 4=.ptr (h.length,1) 0)(x9:get j3 9=.ptr (h.length,7) 0)(c:¬ (256<A.length∨64<S.length)):∃j3',
  evC K (mu K) Bi ⟨j3,O14 p q l j0 D C A S G zP5 h.length::h⟩=some (.norm,⟨j3',O14 p q l j0 D C A S G zP5 h.length::h⟩)∧get j3' 4=.ptr (h.length,1) 0∧get j3' 9=.ptr (h.length,7) 0:=by
 have c1:¬ 256<A.length:=by omega
 have c2:¬ 64<S.length:=by omega
 have c1':((256:Int)<(A.length:Int))=False:=eq_false (by omega);have c2':((64:Int)<(S.length:Int))=False:=eq_false (by omega);simp only[O14];simp[Bi,x4,x9,c1',c2']
end
section
variable(p:Po)(l:Sl Sc)(q:Po)(j0:List Rf)(h:Heap)(D C:List Pc)(A S:List Pt)(G:AV)
abbrev DA(n i:Nat):Env:=[(4,.ptr (n,1) 0),(9,.ptr (n,7) 0),(18,iV (i:Int))]
theorem Rb(j4 s:List Pt)(a:Pt)(hh:A=j4++a::s)(hA:A.length<=100000)(hb:-4611686018427387904<=a.hi-a.lo∧a.hi-a.lo<=4611686018427387904)(hf:far a=false) :
  (mu K).code (.af 8 [4,9,18] ql) ⟨DA h.length j4.length,O14 p q l j0 D C A S G zP5 h.length::h⟩ =
  (mu K).code (.af 8 [4,9,18] ql) ⟨DA h.length (j4++[a]).length,O14 p q l j0 D C A S G zP5 h.length::h⟩:=by
 have hl:A.length=j4.length+(s.length+1):=by rw[hh];simp
 have c1:(j4.length<A.length)=True:=eq_true (by omega);have c1':((j4.length:Int)<(A.length:Int))=True:=eq_true (by omega);have e1:A[j4.length]?=some a:=by rw[hh];simp
 have e2:∀hq,A[j4.length]'hq=a:=λ_=>(aft.1 e1).2
 have w1:IntKind.i64.wrap (a.hi-a.lo)=a.hi-a.lo:=wrap64 (by omega) (by omega);have w2:=wrS (n:=j4.length) (by omega);have hp:=F9 (A:=A) (by rw[hh];simp);have c2:((4294967295:Int)<a.hi-a.lo)=False:=eq_false (by
  exact of_decide_eq_false hf)
 have e3:(j4++[a]).length=j4.length+1:=by simp
 rw[e3];simp only[O14,DA];rw[show ((j4.length+1:Nat):Int)=(j4.length:Int)+1 by omega];rw[aj];generalize (mu K).code _=F;simp[ql,c1,c1',e2,w1,w2,hp,c2]
theorem Ki(j4 s:List Pt)(a:Pt)(hh:A=j4++a::s)(hA:A.length<=100000)(hb:-4611686018427387904<=a.hi-a.lo∧a.hi-a.lo<=4611686018427387904)(hf:far a=true):∃j3',
  (mu K).code (.af 8 [4,9,18] ql) ⟨DA h.length j4.length,O14 p q l j0 D C A S G zP5 h.length::h⟩=some (.ret,⟨j3',O14 p q l j0 D C A S G zP5 h.length::h⟩)∧get j3' 4=.ptr (h.length,1) 0∧get j3' 5=iV 2:=by
 have hl:A.length=j4.length+(s.length+1):=by rw[hh];simp
 have c1:(j4.length<A.length)=True:=eq_true (by omega);have c1':((j4.length:Int)<(A.length:Int))=True:=eq_true (by omega);have e1:A[j4.length]?=some a:=by rw[hh];simp
 have e2:∀hq,A[j4.length]'hq=a:=λ_=>(aft.1 e1).2
 have w1:IntKind.i64.wrap (a.hi-a.lo)=a.hi-a.lo:=wrap64 (by omega) (by omega);have hp:=F9 (A:=A) (by rw[hh];simp);have c2:((4294967295:Int)<a.hi-a.lo)=True:=eq_true (by
  exact of_decide_eq_true hf)
 simp only[O14,DA];rw[aj];generalize (mu K).code _=F;simp[ql,c1,c1',e2,w1,hp,c2]
theorem IM(hA:A.length<=100000)(hb:∀a∈A,-4611686018427387904<=a.hi-a.lo∧a.hi-a.lo<=4611686018427387904):∀(s j4:List Pt),A=j4++s ->
  (s.any far=false->∃j3',(mu K).code (.af 8 [4,9,18] ql) ⟨DA h.length j4.length,O14 p q l j0 D C A S G zP5 h.length::h⟩=some (.exit 4,⟨j3',O14 p q l j0 D C A S G zP5 h.length::h⟩)∧get j3' 4=.ptr (h.length,1) 0∧get j3' 9=.ptr (h.length,7) 0) ∧
  (s.any far=true->∃j3',(mu K).code (.af 8 [4,9,18] ql) ⟨DA h.length j4.length,O14 p q l j0 D C A S G zP5 h.length::h⟩=some (.ret,⟨j3',O14 p q l j0 D C A S G zP5 h.length::h⟩)∧get j3' 4=.ptr (h.length,1) 0∧get j3' 5=iV 2)
 | [],j4,hh=>by
  refine⟨λ_=>?_,λe=>by simp at e⟩;rw[afz]at hh;rw[<-hh];simp only[O14,DA];rw[aj];generalize (mu K).code _=F;simp[ql]
 |a::s,j4,hh=>by
  have hba:=hb a (by rw[hh];simp);cases hf:far a with
  |true=>
   exact⟨λe=>by simp[hf]at e,λ_=>Ki p l q j0 h D C A S G j4 s a hh hA hba hf⟩
  |false=>
   have ih:=IM hA hb s (j4++[a]) (by rw[hh];simp);rw[Rb p l q j0 h D C A S G j4 s a hh hA hba hf];simpa[hf]using ih
theorem N2(hA:A.length<=100000)(hb:∀a∈A,-4611686018427387904<=a.hi-a.lo∧a.hi-a.lo<=4611686018427387904)(j3:Env)(x4:get j3 4=.ptr (h.length,1) 0)(x9:get j3 9=.ptr (h.length,7) 0) :
  (A.any far=false->∃j3',evC K (mu K) xm ⟨j3,O14 p q l j0 D C A S G zP5 h.length::h⟩=some (.norm,⟨j3',O14 p q l j0 D C A S G zP5 h.length::h⟩)∧get j3' 4=.ptr (h.length,1) 0∧get j3' 9=.ptr (h.length,7) 0) ∧
  (A.any far=true->∃j3',evC K (mu K) xm ⟨j3,O14 p q l j0 D C A S G zP5 h.length::h⟩=some (.ret,⟨j3',O14 p q l j0 D C A S G zP5 h.length::h⟩)∧get j3' 4=.ptr (h.length,1) 0∧get j3' 5=iV 2):=by
 obtain⟨k1,k2⟩:=IM p l q j0 h D C A S G hA hb A [] rfl;refine⟨λc=>?_,λc=>?_⟩
 ·obtain⟨j3',k,r⟩:=k1 c;refine⟨j3',?_,r⟩;simp only[DA,iO]at k;have hX:(O14 p q l j0 D C A S G zP5 h.length).length=8:=rfl;generalize O14 p q l j0 D C A S G zP5 h.length=X at *
  simp at k;simp[xm,x4,x9,k,hX]
 ·obtain⟨j3',k,r⟩:=k2 c;refine⟨j3',?_,r⟩;simp only[DA,iO]at k;have hX:(O14 p q l j0 D C A S G zP5 h.length).length=8:=rfl;generalize O14 p q l j0 D C A S G zP5 h.length=X at *
  simp at k;simp[xm,x4,x9,k,hX]
theorem TY(j3:Env)(x4:get j3 4=.ptr (h.length,1) 0)(x5:get j3 5=iV 2) :
  goF c13.res (some (.ret,⟨j3,O14 p q l j0 D C A S G zP5 h.length::h⟩))=some (.val (.tup [zP5,iV 2]) h):=by
 simp[c13,x4,x5]
end
section
variable(p:Po)(l:Sl Sc)(q:Po)(j0:List Rf)(h:Heap)(D C:List Pc)(A S:List Pt)(F:Option Fm)
theorem TZ(j3:Env)(x4:get j3 4=.ptr (h.length,1) 0)(x9:get j3 9=.ptr (h.length,7) 0) :
  goF c13.res (evC K (mu K) (.seq Fl Fp) ⟨j3,O14 p q l j0 D C A S ((bf F).avS Gt.av) zP5 h.length::h⟩)=some (.val (.tup [(⟨⟨false,D⟩,⟨false,C⟩,⟨false,A⟩,bf F,⟨false,S⟩⟩:Pl).av,iV 0]) h):=by
 have ev:∀(α:Type) (av:α->AV) (L:List α),(⟨false,L⟩:Sl α).avS av=.lst (L.map av):=fun α av L=>lR _
 have gc:((bf F).avS Gt.av).isAgg=false:=sV _ _;have gd:((bf F).avS Gt.av).cells=[(bf F).avS Gt.av]:=sW _ _;have ge:∀f,((bf F).avS Gt.av).aO f=true:=λf=>oh f _ _
 have gv:∀f H,((bf F).avS Gt.av).view f H=some ((bf F).avS Gt.av,H):=λf H=>IJ f _ _ _
 obtain⟨t1,z1,h1,_⟩:=pO D;obtain⟨t2,z2,h2,_⟩:=pO C;obtain⟨t3,z3,h3,_⟩:=jD A;obtain⟨t4,z4,h4,_⟩:=jD S;show _=some (Out.val (.tup [.agg [(⟨false,D⟩:Sl Pc).avS Pc.av,(⟨false,C⟩:Sl Pc).avS Pc.av,(⟨false,A⟩:Sl Pt).avS Pt.av,(bf F).avS Gt.av,(⟨false,S⟩:Sl Pt).avS Pt.av],iV 0]) h);rw[ev,ev,ev,ev];generalize (bf F).avS Gt.av=G at *
 simp only[O14,h1,h2,h3,h4];simp[Fl,Fp,c13,x4,x9,ge,gv]
end
