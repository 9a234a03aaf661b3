/-
  The plan of a policy: the whole.
-/
import Derived.Test.YtjnomgdildcbhaaGreatDoorAbPlanX
import Derived.Test.YtjnomgdildcbhaaGreatDoorAb4dP13
import Derived.Test.YtjnomgdildcbhaaGreatDoorAb4dA
import Derived.Test.YtjnomgdildcbhaaGreatDoorAbPlanP
import Derived.Test.YtjnomgdildcbhaaGreatDoorAb4dT2
import Derived.Test.YtjnomgdildcbhaaGreatDoorAb4dS1
import Derived.Test.YtjnomgdildcbhaaGreatDoorAbOrd
set_option linter.unusedVariables false
set_option linter.unusedSimpArgs false
set_option linter.unusedSectionVars false
namespace Go.Ab.Pn
open Go.Ab.Pol
set_option maxRecDepth 100000
set_option maxHeartbeats 4000000
def bS(p:Po)(l:List Sc)(t:Tr):List Rf:=bW (bA p l t) (aV 0 (aS p l t))
def aZ(p:Po)(l:List Sc)(t:Tr):List Pt×List Pt×Option Fm:=C0 (bS p l t) (ak p.uses.l l) (cG (aS p l t))
theorem Ei{K:Cfg}{O:Orc}{d:Nat}{q:POp}{c:CC}{s s':St}{g:FuncId}{cap:List AV}{ex:Ex}(e:evP q s.env=some (.fn (.func g) [] cap))(k:evC K O c { s with env:=set s.env d (.fn (.func g) [] cap) }=some (ex,s')) :
  evB K O (.dfr d q c) s=some (ex,s',some (g,cap)):=by simp only[evB,e,k]
def gQ(p:Po)(l:List Sc)(t:Tr):Pl×Int:=
 if (iD p l t).2≠0 then (zPl,(iD p l t).2) else if (aS p l t).isF=true then (zPl,18)
 else if pz (aZ p l t).1 (aZ p l t).2.1≠0 then (zPl,pz (aZ p l t).1 (aZ p l t).2.1)
 else (⟨⟨false,p.aA.l.map (pcR p.uses.l l)⟩,⟨false,(bS p l t).map (pcR p.uses.l l)⟩,⟨false,(aZ p l t).1⟩,bK (aZ p l t).2.2,⟨false,(aZ p l t).2.1⟩⟩,0)
structure HP (p:Po)(l:List Sc)(t:Tr):Prop where
 ready:bI p l=0
 aA:∀ r∈p.aA.l,(findF p.uses.l l r).isSome=true
 HJ:p.aA.l.length<=64
 chk:chk (bA p l t)=0
 good:Pol.Good (bA p l t) (aV 0 (aS p l t))
 nf:NFp p.uses.l l (inR (bS p l t)) (cG (aS p l t))
 nodup:(bS p l t).Nodup
 found:∀ r∈bS p l t,(findF p.uses.l l r).isSome=true
 eq:(iD p l t).1=bA p l t
theorem FV{p:Po}{l:List Sc}{t:Tr}(ht:Pol.chk p=0->Pol.Good p t)(h:(iD p l t).2=0):HP p l t:=by
 obtain⟨g,hF,h1,h2,h3⟩:=A3 ht h;have hn:NFp p.uses.l l (sU p t) (aS p l t):=mE g h1 (tZ g.isT) false;obtain⟨t1,t2,t3⟩:=gS h1;obtain⟨n1,n2⟩:=RB h1 h2 hn;exact⟨t1,by simpa using t2,(A4 (cx t1).1).1,h2,mP h2,UX h1 h2 hn,n1,n2,h3⟩
theorem NV{p:Po}{l:List Sc}{t:Tr}(ok:HP p l t)(hs:(aS p l t).size<=1000):(bS p l t).length<=1000:=by
 have h1:=AU (bA p l t).nodes.l (ints (aV 0 (aS p l t)).pre);have h2:=ok.good.all;have h3:(bA p l t).nodes.l.length=(aS p l t).size:=kj 0 _;have h4:(ints (aV 0 (aS p l t)).pre).length=(aV 0 (aS p l t)).pre.length:=by simp[ints]
 have h5:bS p l t=jA (bA p l t).nodes.l (ints (aV 0 (aS p l t)).pre):=rfl;rw[h5];omega
theorem f12(p:Po)(hp:Sz p)(l:Sl Sc)(hl:okL l)(t:Tr)(ht:chk p=0->Pol.Good p t)(hn:p.nodes.l.length<=40)(h:Heap) :
  (mu K5).fn 12 [p.av,l.avS Sc.av] h=some (.val (.tup [(gQ p l.l t).1.av,iV (gQ p l.l t).2]) h):=by
 have k15:=λh=>HV (f15 p hp l hl t ht (size_le ht (by omega)) h)
 have hbd:(mu K5).fn 12 [p.av,l.avS Sc.av] h=Ch K5 c12.res (evB K5 (mu K5) c12.body ⟨dc 0 [p.av,l.avS Sc.av],[] :: h⟩):=aay (KX5 _ _ _) (Ul acp) (by simp[c12]);rw[hbd,NW];obtain⟨env,k1,e2,e3,e4,e5,e6⟩:=UY p hp l hl h (iD p l.l t).1 (iD p l.l t).2 k15 (.seq pR (.seq xC (.seq xD (.dfr 43 (.mkF (.func 36) [] [(.t 4),(.t 5)]) (.seq wh (.seq wj (.seq wm (.seq wo (.seq nU (.seq mj (.seq nV (.seq tv tA))))))))))));rw[k1];unfold gQ;by_cases c1:(iD p l.l t).2=0
 case neg=>
  rw[if_pos c1];exact RD p l h _ _ c1 env ⟨e2,e3,e4,e5,e6⟩ _
 rw[if_neg (by simp[c1]),c1];have ok:=FV ht c1;rw[ok.eq];obtain⟨g,hF,hty,_,_⟩:=A3 ht c1;have hsz:(aS p l.l t).size<=380:=by
  have:=norm_le g l.l;omega
 have hq0:(bA p l.l t).root=0:=rfl;have hx:(bA p l.l t).nodes.l[0]?=some (eZ 0 (aS p l.l t)):=C2 0 _;by_cases c2:(aS p l.l t).isF=true
 ·rw[if_pos c2];refine LS p l h _ _ hx hq0 ?_ env ⟨e2,e3,e4,e5,e6⟩ _;cases e:aS p l.l t with
  |gate need ks=>rw[e]at c2;exact absurd c2 (by simp[Cd.isF])
  |atom k num vs=>
   rw[e]at c2;simp only[eZ,bC];simpa[Cd.isF]using c2
 rw[if_neg c2];have hk1:(eZ 0 (aS p l.l t)).k≠1:=λe=>by
  apply c2;cases q:aS p l.l t with
  |gate need ks=>rw[q]at e;simp[eZ,cV]at e
  |atom k num vs=>
   rw[q]at e;simp only[eZ,bC]at e;subst e;rfl
 obtain⟨Cf,k2,hE,h7⟩:=UZ p l h _ _ hx hq0 hk1 env ⟨e2,e3,e4,e5,e6⟩ (.dfr 43 (.mkF (.func 36) [] [(.t 4),(.t 5)]) (.seq wh (.seq wj (.seq wm (.seq wo (.seq nU (.seq mj (.seq nV (.seq tv tA)))))))));rw[k2];have hcap:evP (.mkF (.func 36) [] [(.t 4),(.t 5)]) Cf=some (.fn (.func 36) [] [.ptr (h.length,2) 0,.ptr (h.length,3) 0]):=by
  obtain⟨_,_,x4,x5,_⟩:=hE;simp[x4,x5]
 have hE2:E12 (set Cf 43 (.fn (.func 36) [] [.ptr (h.length,2) 0,.ptr (h.length,3) 0])) h.length:=hE;have h72:get (set Cf 43 (.fn (.func 36) [] [.ptr (h.length,2) 0,.ptr (h.length,3) 0])) 7=iV (eZ 0 (aS p l.l t)).k:=h7;obtain⟨nO,k3,hF2⟩:=RF p l h (bA p l.l t) _ _ hE2 h72;obtain⟨RG,k4,y4,y5,y6,y7,y8,y9⟩:=NY p l h hp hl ok.ready ok.aA (by have:=ok.HJ;omega) (bA p l.l t) _ nO hF2;have hsq:Sz (bA p l.l t):=FW hp g (by omega);obtain⟨U0,k5,z4,z5,z6,z7,z8⟩:=NZ p hp l hl ok.ready (bA p l.l t) h (p.aA.l.map (pcR p.uses.l l.l)) hsq ok.chk (aV 0 (aS p l.l t)) ok.good ok.nodup ok.found (NV ok (by omega)) _ RG y4 y5 y6 y7 y8 y9;have hfd:=jS ok.ready p.uses.l;have hnl:(bA p l.l t).nodes.l.length<=1000:=by
  have h3:(bA p l.l t).nodes.l.length=(aS p l.l t).size:=kj 0 _;omega
 have top:∃ env',evC K5 (mu K5) nU ⟨U0,(OfF p l (bA p l.l t) (bA p l.l t).nodes (flG h.length (gz p.uses.l l.l) 0 (bS p l.l t)) (p.aA.l.map (pcR p.uses.l l.l)) ((bS p l.l t).map (pcR p.uses.l l.l)) [] [] h.length++RR h.length p.uses.l l.l 0 (bS p l.l t)) :: h⟩ =
   some (.norm,⟨env',(OfG p l (.agg [.aj,.aj,.aj,.aj,.aj]) 0 (bA p l.l t) (bA p l.l t).nodes (flG h.length (gz p.uses.l l.l) 0 (bS p l.l t)) (p.aA.l.map (pcR p.uses.l l.l)) ((bS p l.l t).map (pcR p.uses.l l.l)) (aZ p l.l t).1 (aZ p l.l t).2.1 ((bK (aZ p l.l t).2.2).avS Gt.av) h.length++RR h.length p.uses.l l.l 0 (bS p l.l t)) :: h⟩) ∧
   get env' 4=.ptr (h.length,2) 0∧get env' 5=.ptr (h.length,3) 0∧get env' 8=.ptr (h.length,10) 0:=by
  have lt:=mQ (aS p l.l t);by_cases c3:(aS p l.l t).isT=true
  ·have ex:aZ p l.l t=([],[],none):=by
    unfold aZ C0;rw[lt.1,if_pos c3]
   rw[ex];have hk0:(eZ 0 (aS p l.l t)).k=0:=by
    cases e:aS p l.l t with
    |gate need ks=>rw[e]at c3;simp[Cd.isT]at c3
    |atom k num vs=>
     rw[e]at c3;simpa[Cd.isT,eZ,bC]using c3
   rw[hk0]at z7;exact LU p l (bA p l.l t) h _ _ _ _ U0 z4 z5 z7 z8
  ·have hnf:NF p.uses.l l.l (inR (bS p l.l t)) (cG (aS p l.l t)):=by
    rcases ok.nf with⟨b,e⟩ |q
    ·exfalso;rw[e]at lt;cases b
     ·exact c2 (by rw[<-lt.2];rfl)
     ·exact c3 (by rw[<-lt.1];rfl)
    ·exact q
   have ex:aZ p l.l t=eH (bS p l.l t) (ak p.uses.l l.l) (cG (aS p l.l t)):=by
    unfold aZ C0;rw[lt.1,if_neg c3]
   rw[ex];have hk0:(eZ 0 (aS p l.l t)).k≠0:=λe=>by
    apply c3;cases q:aS p l.l t with
    |gate need ks=>rw[q]at e;simp[eZ,cV]at e
    |atom k num vs=>
     rw[q]at e;simp only[eZ,bC]at e;subst e;rfl
   have hat:At (bA p l.l t).nodes.l 0 (flat 0 (cG (aS p l.l t))):=by
    rw[C3];exact DU _
   have k39:=f39 (l:=l.l) (bA p l.l t).nodes (bS p l.l t) (inR (bS p l.l t)) (λv hv=>hv) (h.length,10) (h.length,5) (h.length,8) (h.length,9) (.own (h.length,6) (p.aA.l.map (pcR p.uses.l l.l)).length) (.own (h.length,7) ((bS p l.l t).map (pcR p.uses.l l.l)).length)
    (cG (aS p l.l t)) hnf hat (by rw[jT];exact hsz) _ (RH p l (bA p l.l t) (bA p l.l t).nodes h (p.aA.l.map (pcR p.uses.l l.l)) ((bS p l.l t).map (pcR p.uses.l l.l)) p.uses.l (bS p l.l t) hfd hnl) [] [] (by simp) (by simp)
   rw[FX,FX,aeb,aeb]at k39;exact RI p l (bA p l.l t) h _ _ _ _ hq0 _ hk0 _ _ _ U0 z4 z5 z6 z7 z8 (HV k39)
 obtain⟨aaz,k6,w4,w5,w8⟩:=top;have hx2:3*(aZ p l.l t).1.length<=2*380∧(aZ p l.l t).2.1.length<=380∧∀ a∈(aZ p l.l t).1,Nar a:=by
  have lt:=mQ (aS p l.l t);have hs:=jT (aS p l.l t);unfold aZ C0;split
  ·simp
  ·rename_i c3;have hnf:NF p.uses.l l.l (inR (bS p l.l t)) (cG (aS p l.l t)):=by
    rcases ok.nf with⟨b,e⟩ |q
    ·exfalso;rw[e]at lt c3;cases b
     ·exact c2 (by rw[<-lt.2];rfl)
     ·exact c3 rfl
    ·exact q
   have:=LV (us:=p.uses.l) (l:=l.l) (refs:=bS p l.l t) (cG (aS p l.l t));exact⟨by omega,by omega,LW hfd _ hnf⟩
 obtain⟨hx3,hx4,hx5⟩:=hx2;have gc:((bK (aZ p l.l t).2.2).avS Gt.av).isAgg=false:=C4 _ _;have gd:((bK (aZ p l.l t).2.2).avS Gt.av).cells=[(bK (aZ p l.l t).2.2).avS Gt.av]:=C5 _ _;have ge:∀ f,((bK (aZ p l.l t).2.2).avS Gt.av).aJ f=true:=λf=>wq f _ _
 have start:evC K5 (mu K5) (.seq wh (.seq wj (.seq wm (.seq wo (.seq nU (.seq mj (.seq nV (.seq tv tA)))))))) ⟨set Cf 43 (.fn (.func 36) [] [.ptr (h.length,2) 0,.ptr (h.length,3) 0]),OfP p l 0 (bA p l.l t) :: h⟩ =
   evC K5 (mu K5) (.seq mj (.seq nV (.seq tv tA))) ⟨aaz,(OfG p l (.agg [.aj,.aj,.aj,.aj,.aj]) 0 (bA p l.l t) (bA p l.l t).nodes (flG h.length (gz p.uses.l l.l) 0 (bS p l.l t)) (p.aA.l.map (pcR p.uses.l l.l)) ((bS p l.l t).map (pcR p.uses.l l.l)) (aZ p l.l t).1 (aZ p l.l t).2.1 ((bK (aZ p l.l t).2.2).avS Gt.av) h.length++RR h.length p.uses.l l.l 0 (bS p l.l t)) :: h⟩:=by
  rw[aaA,k3,cR,fF,k4,cR,fF,k5,cR,fF];have k6':=k6;unfold bS at k6' ⊢;rw[k6',cR]
 obtain⟨m1,m2⟩:=N0 p l (bA p l.l t) h (p.aA.l.map (pcR p.uses.l l.l)) ((bS p l.l t).map (pcR p.uses.l l.l)) (RR h.length p.uses.l l.l 0 (bS p l.l t)) (flG h.length (gz p.uses.l l.l) 0 (bS p l.l t)) (aZ p l.l t).1 (aZ p l.l t).2.1 ((bK (aZ p l.l t).2.2).avS Gt.av) aaz w4 w5 w8 (by omega) (by omega);unfold pz;by_cases c4:256<(aZ p l.l t).1.length∨64<(aZ p l.l t).2.1.length
 ·rw[if_pos c4];obtain⟨U1,k7,v4,v5⟩:=m1 c4;rw[Ei hcap (by rw[start,fF,k7,Ej]),if_pos (by decide)];exact JM p l (bA p l.l t) h _ _ _ _ _ _ _ 6 U1 v4 v5
 rw[if_neg c4];obtain⟨U1,k7,v4,v5,v8⟩:=m2 c4;obtain⟨q1,q2⟩:=N1 p l (bA p l.l t) h (p.aA.l.map (pcR p.uses.l l.l)) ((bS p l.l t).map (pcR p.uses.l l.l)) (RR h.length p.uses.l l.l 0 (bS p l.l t)) (flG h.length (gz p.uses.l l.l) 0 (bS p l.l t)) (aZ p l.l t).1 (aZ p l.l t).2.1 (by omega)
  (λa ha=>by have:=hx5 a ha;unfold Nar at this;omega) ((bK (aZ p l.l t).2.2).avS Gt.av) U1 v4 v5 v8
 cases c5:(aZ p l.l t).1.any far with
 |true=>
  obtain⟨U2,X',k8,u4,u5⟩:=q2 c5;rw[Ei hcap (by rw[start,fF,k7,cR,fF,k8,Ej]),if_pos rfl,if_pos (by decide)];exact JM p l (bA p l.l t) h _ _ _ _ _ _ _ 2 U2 u4 u5
 |false=>
  obtain⟨U2,X',k8,u4,u5,u8⟩:=q1 c5;obtain⟨adh,k9,s4,s5⟩:=RJ p l (bA p l.l t) h (p.aA.l.map (pcR p.uses.l l.l)) ((bS p l.l t).map (pcR p.uses.l l.l)) (RR h.length p.uses.l l.l 0 (bS p l.l t)++X') (flG h.length (gz p.uses.l l.l) 0 (bS p l.l t)) (aZ p l.l t).1 (aZ p l.l t).2.1 _ gc gd ge U2 u4 u5 u8;rw[Ei hcap (by rw[start,fF,k7,cR,fF,k8,cR,k9]),if_neg (by decide)];exact U3 p l (bA p l.l t) h _ _ _ _ _ _ (aZ p l.l t).2.2 adh s4 s5
end Go.Ab.Pn
/-
  The sizes that the statements of chapter 41 name.
-/
namespace Go.Ab.Pn
open Go.Ab.Pol
set_option maxRecDepth 100000
set_option maxHeartbeats 1000000
def smN(x:Nd):Bool:=decide (x.kids.l.length<=40)&&decide (x.nm.length<=60)&&decide (x.attr.length<=60)
def smU(x:Us):Bool:=decide (x.al.length<=60)&&decide (x.sc.length<=60)
def smR(x:Rf):Bool:=decide (x.al.length<=60)&&decide (x.attr.length<=60)
def C6(p:Po):Bool:=decide (p.name.length<=60)&&decide (p.uses.l.length<=8)&&decide (p.aA.l.length<=20)&&decide (p.nodes.l.length<=60)&&decide (p.scope.length<=60)&&decide (p.cD.length<=60)&&p.nodes.l.all smN&&p.uses.l.all smU&&p.aA.l.all smR
theorem f32(p:Po)(h:Heap):(mu K).fn 32 [p.av] h=some (.val (.bool (C6 p)) h):=by
 have q1:=ay _ dR p.uses;have q2:=ay _ fK p.aA;have q3:=ay _ dK p.nodes;rw[aB (KX _ _ _) acv rfl (by simp[c32])];unfold C6;by_cases c1:p.name.length<=60
 case neg=>
  have d1:((60:Int)<(p.name.length:Int))=True:=by simp;omega
  simp[c32,KL,aa,c1,d1]
 have d1:((60:Int)<(p.name.length:Int))=False:=by simp;omega
 by_cases c2:p.uses.l.length<=8
 case neg=>
  have d2:((8:Int)<(p.uses.l.length:Int))=True:=by simp;omega
  simp[c32,KL,aa,c1,d1,c2,d2]
 have d2:((8:Int)<(p.uses.l.length:Int))=False:=by simp;omega
 by_cases c3:p.aA.l.length<=20
 case neg=>
  have d3:((20:Int)<(p.aA.l.length:Int))=True:=by simp;omega
  simp[c32,KL,aa,c1,d1,c2,d2,c3,d3]
 have d3:((20:Int)<(p.aA.l.length:Int))=False:=by simp;omega
 by_cases c4:p.nodes.l.length<=60
 case neg=>
  have d4:((60:Int)<(p.nodes.l.length:Int))=True:=by simp;omega
  simp[c32,KL,aa,c1,d1,c2,d2,c3,d3,c4,d4]
 have d4:((60:Int)<(p.nodes.l.length:Int))=False:=by simp;omega
 by_cases c5:p.scope.length<=60
 case neg=>
  have d5:((60:Int)<(p.scope.length:Int))=True:=by simp;omega
  simp[c32,KL,aa,c1,d1,c2,d2,c3,d3,c4,d4,c5,d5]
 have d5:((60:Int)<(p.scope.length:Int))=False:=by simp;omega
 by_cases c6:p.cD.length<=60
 case neg=>
  have d6:((60:Int)<(p.cD.length:Int))=True:=by simp;omega
  simp[c32,KL,aa,c1,d1,c2,d2,c3,d3,c4,d4,c5,d5,c6,d6]
 have d6:((60:Int)<(p.cD.length:Int))=False:=by simp;omega
 have oG:=aD (K:=K) (n:=1) (live:=[1,3]) (a:=tV) (λ(_:Unit) (x:Nd)=>if smN x=true then (.inl ():Unit ⊕ Unit) else .inr ())
  (λpre b=>⟨[(1,.ptr (h.length,0) 0),(3,iV (pre.length:Int))],[.box 26 false p.av] :: h⟩) (λpre b=>True)
  (λb o=>∃ env,o=some (.exit 0,⟨env,[.box 26 false p.av] :: h⟩)∧get env 1=.ptr (h.length,0) 0) (λk o=>∃ env R,o=some (.ret,⟨env,R :: h⟩)∧get env 2=.bool false) p.nodes.l
  (λpre x r b hl hb=>by
   obtain⟨h1,h2,w1⟩:=aH hl (by omega);have hix:=λ(k:IntKind)=>aG (av:=Nd.av) (sz:=6) (s:=p.nodes) (k:=k) (j:=(pre.length:Int)) (x:=x) (by omega) (by simpa using h2) rfl
   rw[au];generalize (mu K).code (.af 1 [1,3] tV)=F;clear hl;unfold smN;by_cases e1:x.kids.l.length<=40
   case neg=>
    have v1:((40:Int)<(x.kids.l.length:Int))=True:=by simp;omega
    simp[tV,KL,aa,h1,hix,w1,e1,v1]
   have v1:((40:Int)<(x.kids.l.length:Int))=False:=by simp;omega
   by_cases e2:x.nm.length<=60
   case neg=>
    have v2:((60:Int)<(x.nm.length:Int))=True:=by simp;omega
    simp[tV,KL,aa,h1,hix,w1,e1,v1,e2,v2]
   have v2:((60:Int)<(x.nm.length:Int))=False:=by simp;omega
   by_cases e3:x.attr.length<=60
   case neg=>
    have v3:((60:Int)<(x.attr.length:Int))=True:=by simp;omega
    simp[tV,KL,aa,h1,hix,w1,e1,v1,e2,v2,e3,v3]
   have v3:((60:Int)<(x.attr.length:Int))=False:=by simp;omega
   simp[tV,KL,aa,h1,hix,w1,e1,v1,e2,v2,e3,v3])
  (λb _=>by
   rw[au];generalize (mu K).code (.af 1 [1,3] tV)=F;simp[tV]) () trivial
 have lQ:=aD (K:=K) (n:=1) (live:=[1,5]) (a:=xh) (λ(_:Unit) (x:Us)=>if smU x=true then (.inl ():Unit ⊕ Unit) else .inr ())
  (λpre b=>⟨[(1,.ptr (h.length,0) 0),(5,iV (pre.length:Int))],[.box 26 false p.av] :: h⟩) (λpre b=>True)
  (λb o=>∃ env,o=some (.exit 2,⟨env,[.box 26 false p.av] :: h⟩)∧get env 1=.ptr (h.length,0) 0) (λk o=>∃ env R,o=some (.ret,⟨env,R :: h⟩)∧get env 2=.bool false) p.uses.l
  (λpre x r b hl hb=>by
   obtain⟨h1,h2,w1⟩:=aH hl (by omega);have hix:=λ(k:IntKind)=>aG (av:=Us.av) (sz:=2) (s:=p.uses) (k:=k) (j:=(pre.length:Int)) (x:=x) (by omega) (by simpa using h2) rfl
   rw[au];generalize (mu K).code (.af 1 [1,5] xh)=F;clear hl;unfold smU;by_cases e2:x.al.length<=60
   case neg=>
    have v2:((60:Int)<(x.al.length:Int))=True:=by simp;omega
    simp[xh,KL,aa,h1,hix,w1,e2,v2,q1]
   have v2:((60:Int)<(x.al.length:Int))=False:=by simp;omega
   by_cases e3:x.sc.length<=60
   case neg=>
    have v3:((60:Int)<(x.sc.length:Int))=True:=by simp;omega
    simp[xh,KL,aa,h1,hix,w1,e2,v2,e3,v3,q1]
   have v3:((60:Int)<(x.sc.length:Int))=False:=by simp;omega
   simp[xh,KL,aa,h1,hix,w1,e2,v2,e3,v3,q1])
  (λb _=>by
   rw[au];generalize (mu K).code (.af 1 [1,5] xh)=F;simp[xh]) () trivial
 have pM:=aD (K:=K) (n:=1) (live:=[1,6]) (a:=xj) (λ(_:Unit) (x:Rf)=>if smR x=true then (.inl ():Unit ⊕ Unit) else .inr ())
  (λpre b=>⟨[(1,.ptr (h.length,0) 0),(6,iV (pre.length:Int))],[.box 26 false p.av] :: h⟩) (λpre b=>True)
  (λb o=>∃ env,o=some (.exit 4,⟨env,[.box 26 false p.av] :: h⟩)) (λk o=>∃ env R,o=some (.ret,⟨env,R :: h⟩)∧get env 2=.bool false) p.aA.l
  (λpre x r b hl hb=>by
   obtain⟨h1,h2,w1⟩:=aH hl (by omega);have hix:=λ(k:IntKind)=>aG (av:=Rf.av) (sz:=2) (s:=p.aA) (k:=k) (j:=(pre.length:Int)) (x:=x) (by omega) (by simpa using h2) rfl
   rw[au];generalize (mu K).code (.af 1 [1,6] xj)=F;clear hl;unfold smR;by_cases e2:x.al.length<=60
   case neg=>
    have v2:((60:Int)<(x.al.length:Int))=True:=by simp;omega
    simp[xj,KL,aa,h1,hix,w1,e2,v2,q2]
   have v2:((60:Int)<(x.al.length:Int))=False:=by simp;omega
   by_cases e3:x.attr.length<=60
   case neg=>
    have v3:((60:Int)<(x.attr.length:Int))=True:=by simp;omega
    simp[xj,KL,aa,h1,hix,w1,e2,v2,e3,v3,q2]
   have v3:((60:Int)<(x.attr.length:Int))=False:=by simp;omega
   simp[xj,KL,aa,h1,hix,w1,e2,v2,e3,v3,q2])
  (λb _=>by
   rw[au];generalize (mu K).code (.af 1 [1,6] xj)=F;simp[xj]) () trivial
 simp only[adZ,ad5]at oG lQ pM;cases e0:p.nodes.l.all smN
 ·rw[(aX smN p.nodes.l).2 e0]at oG;obtain⟨env,R,k,g⟩:=oG;simp[c32,KL,aa,c1,d1,c2,d2,c3,d3,c4,d4,c5,d5,c6,d6,k,g]
 rw[(aX smN p.nodes.l).1 e0]at oG;obtain⟨_,Nu,k0,a1⟩:=oG;cases e1:p.uses.l.all smU
 ·rw[(aX smU p.uses.l).2 e1]at lQ;obtain⟨env,R,k,g⟩:=lQ;simp[c32,KL,aa,c1,d1,c2,d2,c3,d3,c4,d4,c5,d5,c6,d6,k0,a1,k,g]
 rw[(aX smU p.uses.l).1 e1]at lQ;obtain⟨_,Cf,k1,b1⟩:=lQ;cases e2:p.aA.l.all smR
 ·rw[(aX smR p.aA.l).2 e2]at pM;obtain⟨env,R,k,g⟩:=pM;simp[c32,KL,aa,c1,d1,c2,d2,c3,d3,c4,d4,c5,d5,c6,d6,k0,a1,k1,b1,k,g]
 ·rw[(aX smR p.aA.l).1 e2]at pM;obtain⟨_,env,k⟩:=pM;simp[c32,KL,aa,c1,d1,c2,d2,c3,d3,c4,d4,c5,d5,c6,d6,k0,a1,k1,b1,k]
theorem N2{p:Po}(hp:aPo p)(h:C6 p=true):Sz p:=by
 unfold C6 at h;simp only[ad8,decide_eq_true_eq]at h;obtain⟨⟨⟨⟨⟨⟨⟨⟨c1,c2⟩,c3⟩,c4⟩,c5⟩,c6⟩,c7⟩,c8⟩,c9⟩:=h;refine⟨hp.name,hp.scope,hp.cD,⟨by omega,λu hu=>⟨(hp.uses.2 u hu).al,(hp.uses.2 u hu).sc⟩⟩,⟨by omega,λu hu=>⟨(hp.aA.2 u hu).al,(hp.aA.2 u hu).attr⟩⟩,by omega,λn hn=>⟨⟨(hp.nodes.2 n hn).nm,(hp.nodes.2 n hn).attr⟩,?_⟩⟩;have:=aek.1 c7 n hn;unfold smN at this;simp only[ad8,decide_eq_true_eq]at this;omega
end Go.Ab.Pn
/-
  The sizes that the statements of chapter 47 name.
-/
namespace Go.Ab.Pn
open Go.Ab.Pol
set_option maxRecDepth 100000
set_option maxHeartbeats 4000000
def smF(f:Pol.Fd):Bool:=decide (f.words.l.length<=70)&&decide (f.name.length<=60)
def smS(s:Sc):Bool:=decide (s.fields.l.length<=20)&&decide (s.name.length<=60)&&s.fields.l.all smF
def Fh(p:Po)(l:List Sc):Bool:=decide (l.length<=6)&&C6 p&&decide (p.nodes.l.length<=30)&&l.all smS
theorem N3(p:Po)(l:Sl Sc)(i:Nat)(s:Sc)(hs:l.l[i]?=some s)(hl:s.fields.l.length<=1000)(h:Heap) :
  (s.fields.l.all smF=true->∃ env,(mu K).code (.af 1 [1,5,6] oQ) ⟨[(1,l.avS Sc.av),(5,iV (i:Int)),(6,iV 0)],[.box 26 false p.av] :: h⟩=some (.exit 2,⟨env,[.box 26 false p.av] :: h⟩)∧get env 1=l.avS Sc.av∧get env 5=iV (i:Int)) ∧
  (s.fields.l.all smF=false->∃ env R,(mu K).code (.af 1 [1,5,6] oQ) ⟨[(1,l.avS Sc.av),(5,iV (i:Int)),(6,iV 0)],[.box 26 false p.av] :: h⟩=some (.ret,⟨env,R :: h⟩)∧get env 4=.bool false):=by
 have q1:=ay _ vB s.fields;have his:=λ(k:IntKind)=>aG (av:=Sc.av) (sz:=2) (s:=l) (k:=k) (j:=(i:Int)) (x:=s) (by omega) (by simpa using hs) rfl
 have key:=aD (K:=K) (n:=1) (live:=[1,5,6]) (a:=oQ) (λ(_:Unit) (f:Pol.Fd)=>if smF f=true then (.inl ():Unit ⊕ Unit) else .inr ())
  (λpre _=>⟨[(1,l.avS Sc.av),(5,iV (i:Int)),(6,iV (pre.length:Int))],[.box 26 false p.av] :: h⟩) (λ_ _=>True)
  (λ_ o=>∃ env,o=some (.exit 2,⟨env,[.box 26 false p.av] :: h⟩)∧get env 1=l.avS Sc.av∧get env 5=iV (i:Int))
  (λ_ o=>∃ env R,o=some (.ret,⟨env,R :: h⟩)∧get env 4=.bool false) s.fields.l
  (λpre x r b hl' hb=>by
   obtain⟨h1,h2,w1⟩:=aH hl' (by omega);have hix:=λ(k:IntKind)=>aG (av:=Pol.Fd.av) (sz:=5) (s:=s.fields) (k:=k) (j:=(pre.length:Int)) (x:=x) (by omega) (by simpa using h2) rfl
   have q2:=ay _ cS x.words;rw[au];generalize (mu K).code (.af 1 [1,5,6] oQ)=F;clear hl';unfold smF;by_cases e:x.words.l.length<=70
   case neg=>
    have d:((70:Int)<(x.words.l.length:Int))=True:=by simp;omega
    simp[oQ,KL,aa,h1,his,hix,w1,d,e,q1,q2]
   have d:((70:Int)<(x.words.l.length:Int))=False:=by simp;omega
   have d2:(x.words.l.length<=70)=True:=by simp[e]
   by_cases e3:x.name.length<=60
   ·have d3:((60:Int)<(x.name.length:Int))=False:=by simp;omega
    have d4:(x.name.length<=60)=True:=by simp[e3]
    simp[oQ,KL,aa,h1,his,hix,w1,d,d2,d3,d4,q1,q2]
   ·have d3:((60:Int)<(x.name.length:Int))=True:=by simp;omega
    simp[oQ,KL,aa,h1,his,hix,w1,d,d2,d3,e3,q1,q2])
  (λb _=>by
   rw[au];generalize (mu K).code (.af 1 [1,5,6] oQ)=F;simp[oQ,his,q1]) () trivial
 simp only[adZ,ad5]at key;refine⟨λe=>?_,λe=>?_⟩
 ·rw[(aX smF s.fields.l).1 e]at key;exact key.2
 ·rw[(aX smF s.fields.l).2 e]at key;exact key
theorem f10(p:Po)(l:Sl Sc)(h:Heap):(mu K).fn 10 [p.av,l.avS Sc.av] h=some (.val (.bool (Fh p l.l)) h):=by
 have q1:=ay _ dR p.uses;have q2:=ay _ fK p.aA;have q3:=ay _ dK p.nodes;have q4:=ay _ fC l;have k32:=λh=>f32 p h
 rw[aB (KX _ _ _) aco rfl (by simp[c10])];unfold Fh;by_cases c0:l.l.length<=6
 case neg=>
  have d:((6:Int)<(l.l.length:Int))=True:=by simp;omega
  simp[c10,KL,aa,c0,d]
 have d0:((6:Int)<(l.l.length:Int))=False:=by simp;omega
 have d0':(l.l.length<=6)=True:=by simp[c0]
 cases e0:C6 p with
 |false=>
  rw[e0]at k32;simp[c10,KL,aa,d0,d0',k32,q1,q2,q3]
 |true=>
 rw[e0]at k32;by_cases c1:p.nodes.l.length<=30
 case neg=>
  have d:((30:Int)<(p.nodes.l.length:Int))=True:=by simp;omega
  simp[c10,KL,aa,d0,d0',k32,q1,q2,q3,c1,d]
 have d1:((30:Int)<(p.nodes.l.length:Int))=False:=by simp;omega
 have d1':(p.nodes.l.length<=30)=True:=by simp[c1]
 have key:=aD (K:=K) (n:=1) (live:=[1,5]) (a:=tR) (λ(_:Unit) (s:Sc)=>if smS s=true then (.inl ():Unit ⊕ Unit) else .inr ())
  (λpre _=>⟨[(1,l.avS Sc.av),(5,iV (pre.length:Int))],[.box 26 false p.av] :: h⟩) (λ_ _=>True)
  (λ_ o=>∃ env,o=some (.exit 0,⟨env,[.box 26 false p.av] :: h⟩))
  (λ_ o=>∃ env R,o=some (.ret,⟨env,R :: h⟩)∧get env 4=.bool false) l.l
  (λpre x r b hl' hb=>by
   obtain⟨h1,h2,w1⟩:=aH hl' (by omega);have hix:=λ(k:IntKind)=>aG (av:=Sc.av) (sz:=2) (s:=l) (k:=k) (j:=(pre.length:Int)) (x:=x) (by omega) (by simpa using h2) rfl
   have q5:=ay _ vB x.fields;have inner:=N3 p l pre.length x h2;rw[au];generalize (mu K).code (.af 1 [1,5] tR)=F;clear hl';unfold smS;by_cases e:x.fields.l.length<=20
   case neg=>
    have d:((20:Int)<(x.fields.l.length:Int))=True:=by simp;omega
    simp[-List.all_eq_true,tR,KL,aa,h1,hix,w1,d,e,q4,q5]
   have d:((20:Int)<(x.fields.l.length:Int))=False:=by simp;omega
   have d2:(x.fields.l.length<=20)=True:=by simp[e]
   by_cases e2:x.name.length<=60
   case neg=>
    have d3:((60:Int)<(x.name.length:Int))=True:=by simp;omega
    simp[-List.all_eq_true,tR,KL,aa,h1,hix,w1,d,d2,d3,e2,q4,q5]
   have d3:((60:Int)<(x.name.length:Int))=False:=by simp;omega
   have d4:(x.name.length<=60)=True:=by simp[e2]
   cases e3:x.fields.l.all smF with
   |true=>
    obtain⟨env,k,g1,g5⟩:=(inner (by omega) h).1 e3;simp[-List.all_eq_true,tR,KL,aa,h1,hix,w1,d,d2,d3,d4,q4,q5,k,g1,g5]
   |false=>
    obtain⟨env,R,k,g4⟩:=(inner (by omega) h).2 e3;simp[-List.all_eq_true,tR,KL,aa,h1,hix,w1,d,d2,d3,d4,q4,q5,k,g4])
  (λb _=>by
   rw[au];generalize (mu K).code (.af 1 [1,5] tR)=F;simp[tR,q4]) () trivial
 simp only[adZ,ad5]at key;cases e:l.l.all smS with
 |false=>
  rw[(aX smS l.l).2 e]at key;obtain⟨env,R,k,g4⟩:=key;simp[-List.all_eq_true,c10,KL,aa,d0,d0',k32,q1,q2,q3,d1,d1',k,g4]
 |true=>
  rw[(aX smS l.l).1 e]at key;obtain⟨_,env,k⟩:=key;simp[-List.all_eq_true,c10,KL,aa,d0,d0',k32,q1,q2,q3,d1,d1',k]
theorem M5{p:Po}(hp:aPo p){l:Sl Sc}(hl:oH aSc l)(h:Fh p l.l=true):Sz p∧okL l∧p.nodes.l.length<=30:=by
 unfold Fh at h;simp only[ad8,decide_eq_true_eq]at h;obtain⟨⟨⟨h3,h2⟩,h4⟩,h1⟩:=h;refine⟨N2 hp h2,⟨by omega,λs hs=>?_⟩,h4⟩;have a:=hl.2 s hs;have b:=aek.1 h1 s hs;unfold smS at b;simp only[ad8,decide_eq_true_eq]at b;refine⟨a.name,by omega,λf hf=>?_⟩;have c:=a.fields.2 f hf;have d:=aek.1 b.2 f hf;unfold smF at d;simp only[ad8,decide_eq_true_eq]at d;exact⟨c.name,by omega,c.words.2⟩
theorem Lg(p:Po):∃ t,chk p=0->Pol.Good p t:=by
 by_cases h:chk p=0
 ·obtain⟨t,g⟩:=FY h;exact⟨t,λ_=>g⟩
 ·exact⟨.nd 0 (bw 0) [],λe=>absurd e h⟩
end Go.Ab.Pn
/-
  Ie: lists put one behind the other, places that aaB twice.
-/
namespace Go.Ab.Pn
open Go.Ab.Pol
set_option maxRecDepth 100000
set_option maxHeartbeats 2000000
theorem f120(n:Nat)(hn:0<n)(h2:n<=1000000)(Fr:List Blk)(h:Heap):(mu K4).fn 120 [.aj,iV (n:Int)] (Fr :: h)=some (.val (.own (h.length,Fr.length) 0) ((Fr++[.arr 47 2 false []]) :: h)):=by
 have e:K4.X 120 [.aj,iV (n:Int)] (Fr :: h)=some (.val (.own (h.length,Fr.length) 0) ((Fr++[.arr 47 2 false []]) :: h)):=by
  show (match K.X 120 [.aj,iV (n:Int)] (Fr :: h) with
   |some r=>some r
   |none=>exX 120 [.aj,iV (n:Int)] (Fr :: h))=_
  rw[KX _ _ _];have c0:¬ (n:Int)=0:=by omega
  have c1:(0:Int)<(n:Int)∧(n:Int)<=1000000:=by omega
  show (if (n:Int)=0 then some (Out.val .aj (Fr :: h)) else if (0:Int)<(n:Int)∧(n:Int)<=1000000 then some (Out.val (.own (hnext (Fr :: h)) 0) (hnew (Fr :: h) (.arr 47 2 false []))) else none)=_;rw[if_neg c0,if_pos c1];rfl
 rw[dB];simp[step,gm,e]
theorem aaC(h:Heap)(hn:h≠[]):(mu K4).fn 120 [.aj,iV 0] h=some (.val .aj h):=by
 obtain⟨Fr,o,rfl⟩:=List.exists_cons_of_ne_nil hn;have e:K4.X 120 [.aj,iV 0] (Fr :: o)=some (.val .aj (Fr :: o)):=by
  show (match K.X 120 [.aj,iV 0] (Fr :: o) with
   |some r=>some r
   |none=>exX 120 [.aj,iV 0] (Fr :: o))=_
  rw[KX _ _ _];rfl
 rw[dB];simp[step,gm,e]
theorem f65(a b:Sl Pc)(ha:a.l.length<=1000)(hb:b.l.length<=1000)(h:Heap):∃ nl,(mu K4).fn 65 [.lst [a.avS Pc.av,b.avS Pc.av]] h=some (.val (lv nl ((a.l++b.l).map Pc.av)) h):=by
 let ARG:AV:=.lst [a.avS Pc.av,b.avS Pc.av]
 have hA:ARG=.lst [a.avS Pc.av,b.avS Pc.av]:=rfl;have i0:=λ(k:IntKind)=>dU (sz:=1) (l:=[a.avS Pc.av,b.avS Pc.av]) (k:=k) (j:=(0:Int)) (v:=a.avS Pc.av) (by decide) rfl (by simp)
 have i1:=λ(k:IntKind)=>dU (sz:=1) (l:=[a.avS Pc.av,b.avS Pc.av]) (k:=k) (j:=(1:Int)) (v:=b.avS Pc.av) (by decide) rfl (by simp)
 have w0:IntKind.i64.wrap (a.l.length:Int)=(a.l.length:Int):=wrap64 (by omega) (by omega);have w1:IntKind.i64.wrap ((a.l.length:Int)+(b.l.length:Int))=(a.l.length:Int)+(b.l.length:Int):=wrap64 (by omega) (by omega);have u1:IntKind.i64.wrap 1=1:=by decide
 have u2:IntKind.i64.wrap 2=2:=by decide
 have n0:¬ (a.l.length:Int)<0:=by omega
 have n1:¬ (a.l.length:Int)+(b.l.length:Int)<0:=by omega
 have s0:(mu K4).code (.af 0 [0,3,9,10,11] oC) ⟨[(0,ARG),(3,iV 0),(9,ARG),(10,iV 2),(11,iV 0)],[] :: h⟩=(mu K4).code (.af 0 [0,3,9,10,11] oC) ⟨[(0,ARG),(3,iV (a.l.length:Int)),(9,ARG),(10,iV 2),(11,iV 1)],[] :: h⟩:=by
  rw[au];generalize (mu K4).code (.af 0 [0,3,9,10,11] oC)=F;simp[oC,KL4,aa,hA,i0,w0,u1,n0]
 have s1:(mu K4).code (.af 0 [0,3,9,10,11] oC) ⟨[(0,ARG),(3,iV (a.l.length:Int)),(9,ARG),(10,iV 2),(11,iV 1)],[] :: h⟩=(mu K4).code (.af 0 [0,3,9,10,11] oC) ⟨[(0,ARG),(3,iV ((a.l.length:Int)+(b.l.length:Int))),(9,ARG),(10,iV 2),(11,iV 2)],[] :: h⟩:=by
  rw[au];generalize (mu K4).code (.af 0 [0,3,9,10,11] oC)=F;simp[oC,KL4,aa,hA,i1,w1,u2,n1]
 have s2:∃ env,(mu K4).code (.af 0 [0,3,9,10,11] oC) ⟨[(0,ARG),(3,iV ((a.l.length:Int)+(b.l.length:Int))),(9,ARG),(10,iV 2),(11,iV 2)],[] :: h⟩=some (.exit 0,⟨env,[] :: h⟩)∧get env 0=ARG∧get env 3=iV ((a.l.length:Int)+(b.l.length:Int)):=by
  rw[au];generalize (mu K4).code (.af 0 [0,3,9,10,11] oC)=F;simp[oC,KL4,aa]
 obtain⟨env,e2,g0,g3⟩:=s2;rw[<-s1,<-s0]at e2;by_cases hz:a.l.length+b.l.length=0
 ·have za:a.l=[]:=aes (by omega);have zb:b.l=[]:=aes (by omega);have la:a.l.length=0:=by omega
  have lb:b.l.length=0:=by omega
  refine⟨true,?_⟩;have t0:(mu K4).code (.af 0 [6,25,26,27] fI) ⟨[(6,.aj),(25,ARG),(26,iV 2),(27,iV 0)],[] :: h⟩=(mu K4).code (.af 0 [6,25,26,27] fI) ⟨[(6,.aj),(25,ARG),(26,iV 2),(27,iV 1)],[] :: h⟩:=by
   rw[au];generalize (mu K4).code (.af 0 [6,25,26,27] fI)=F;simp[fI,KL4,aa,hA,i0,u1,za]
  have t1:(mu K4).code (.af 0 [6,25,26,27] fI) ⟨[(6,.aj),(25,ARG),(26,iV 2),(27,iV 1)],[] :: h⟩=(mu K4).code (.af 0 [6,25,26,27] fI) ⟨[(6,.aj),(25,ARG),(26,iV 2),(27,iV 2)],[] :: h⟩:=by
   rw[au];generalize (mu K4).code (.af 0 [6,25,26,27] fI)=F;simp[fI,KL4,aa,hA,i1,u2,zb]
  have t2:∃ env,(mu K4).code (.af 0 [6,25,26,27] fI) ⟨[(6,.aj),(25,ARG),(26,iV 2),(27,iV 2)],[] :: h⟩=some (.exit 2,⟨env,[] :: h⟩)∧get env 6=.aj:=by
   rw[au];generalize (mu K4).code (.af 0 [6,25,26,27] fI)=F;simp[fI,KL4,aa]
  obtain⟨nO,e3,g6⟩:=t2;rw[<-t1,<-t0]at e3;have RL:=λh hn=>aaC h hn
  simp only[la,lb,ad5,Int.add_zero]at g3;rw[aB (KX4 _ _ _) (Nj Yz) rfl (by simp[c65])];simp only[hA]at e2 e3 g0;simp[c65,KL4,aa,e2,g0,g3,RL,e3,g6,za,zb,lv]
 ·refine⟨true,?_⟩;have r1:a.l.length*16<=room∧a.l.length<=room:=by unfold room;omega
  have r2:(a.l.length+b.l.length)*16<=room∧a.l.length+b.l.length<=room:=by unfold room;omega
  have z1:∀ s:Sl Pc,sized 2 (s.l.map Pc.av)=true:=λs=>by simp[sized]
  have t0:(mu K4).code (.af 1 [6,25,26,27] fI) ⟨[(6,.own (h.length,0) 0),(25,ARG),(26,iV 2),(27,iV 0)],[.arr 47 2 false []] :: h⟩=(mu K4).code (.af 1 [6,25,26,27] fI) ⟨[(6,.own (h.length,0) a.l.length),(25,ARG),(26,iV 2),(27,iV 1)],[.arr 47 2 false (a.l.map Pc.av)] :: h⟩:=by
   rw[au];generalize (mu K4).code (.af 1 [6,25,26,27] fI)=F;simp[fI,KL4,aa,hA,i0,u1,r1]
  have t1:(mu K4).code (.af 1 [6,25,26,27] fI) ⟨[(6,.own (h.length,0) a.l.length),(25,ARG),(26,iV 2),(27,iV 1)],[.arr 47 2 false (a.l.map Pc.av)] :: h⟩=(mu K4).code (.af 1 [6,25,26,27] fI) ⟨[(6,.own (h.length,0) (a.l.length+b.l.length)),(25,ARG),(26,iV 2),(27,iV 2)],[.arr 47 2 false (a.l.map Pc.av++b.l.map Pc.av)] :: h⟩:=by
   rw[au];generalize (mu K4).code (.af 1 [6,25,26,27] fI)=F;simp[fI,KL4,aa,hA,i1,u2,r2]
  have t2:∃ env,(mu K4).code (.af 1 [6,25,26,27] fI) ⟨[(6,.own (h.length,0) (a.l.length+b.l.length)),(25,ARG),(26,iV 2),(27,iV 2)],[.arr 47 2 false (a.l.map Pc.av++b.l.map Pc.av)] :: h⟩=some (.exit 2,⟨env,[.arr 47 2 false (a.l.map Pc.av++b.l.map Pc.av)] :: h⟩)∧get env 6=.own (h.length,0) (a.l.length+b.l.length):=by
   rw[au];generalize (mu K4).code (.af 1 [6,25,26,27] fI)=F;simp[fI,KL4,aa]
  obtain⟨nO,e3,g6⟩:=t2;rw[<-t1,<-t0]at e3;have RL:=λFr h=>f120 (a.l.length+b.l.length) (by omega) (by omega) Fr h
  simp only[aft]at RL;have hne:(a.l++b.l).map Pc.av≠[]:=λe=>by
   have:=congrArg List.length e;simp at this;exact hz (by rw[this.1,this.2];rfl)
  rw[aB (KX4 _ _ _) (Nj Yz) rfl (by simp[c65])];rw[jK true hne];simp only[hA]at e2 e3 g0;simp[c65,KL4,aa,e2,g0,g3,RL,e3,g6]
theorem N4(x y:Pc):eqK (.st [.int,.int]) x.av y.av=some (decide (x=y)):=by
 obtain⟨a,b⟩:=x;obtain⟨c,d⟩:=y;simp only[Pc.av,Pc.cs,eqK,dN,eqF,if_true]
 congr 1
 rw[aem];simp
theorem f66(nl:Bool)(l:List Pc)(hl:l.length<=1000000)(h:Heap):(mu K).fn 66 [lv nl (l.map Pc.av)] h=some (.val (.bool (decide (¬ l.Nodup))) h):=by
 have key:=aD (K:=K) (n:=1) (live:=[3,7,8,9]) (a:=zY) twF
  (λpre met=>⟨[(3,.mp (h.length,0)),(7,lv nl (l.map Pc.av)),(8,.int .i64 (l.length:Int)),(9,.int .i64 (pre.length:Int))],[.map (fZ Pc.av met)] :: h⟩) (λ_ _=>True)
  (λmet o=>∃ env,o=some (.exit 0,⟨env,[.map (fZ Pc.av met)] :: h⟩)) (λ_ o=>∃ env Fr,o=some (.ret,⟨env,Fr :: h⟩)∧get env 2=.bool true) l
  (λpre x r met hl' _=>by
   obtain⟨h1,h2,w1⟩:=aH hl' (by omega);have hix:=λ(k:IntKind)=>nB (sz:=2) (nl:=nl) (l:=l.map Pc.av) (k:=k) (j:=(pre.length:Int)) (v:=x.av) (by omega) (by rw[aev,aeh,h2];rfl) rfl
   have lk:=jQ N4 x met;have uk:=mC N4 x met;have kq:=N4 x x;have kr:=λp=>iY (kv:=Pc.av) p met
   have kr2:=λp=>iY (kv:=Pc.av) p (met++[x])
   rw[au];generalize (mu K).code (.af 1 [3,7,8,9] zY)=F;clear hl';unfold twF;by_cases hx:x∈met
   ·simp[zY,KL,aa,h1,hix,w1,kq,lk,hx]
   ·have uk:=uk hx;simp[-List.all_eq_true,zY,KL,aa,h1,hix,w1,kq,lk,uk,hx,kr,kr2])
  (λmet _=>by
   rw[au];generalize (mu K).code (.af 1 [3,7,8,9] zY)=F;simp[zY]) [] trivial
 simp only[adZ,ad5]at key;have e0:fZ Pc.av []=[]:=rfl;rw[aB (KX _ _ _) acK rfl (by simp[c66])];obtain⟨t1,t2⟩:=tO l [] (by simp);simp only[aeb]at t1 t2;by_cases hn:l.Nodup
 ·rw[t1 hn]at key;obtain⟨_,env,k⟩:=key;rw[e0]at k;simp[c66,KL,aa,k,hn]
 ·rw[t2 hn]at key;obtain⟨env,Fr,k,g2⟩:=key;rw[e0]at k;simp[c66,KL,aa,k,g2,hn]
theorem N5:∀ l:List Pc,twP l=decide (¬ l.Nodup)
 | []=>rfl
 |x :: l=>by
  simp only[twP,N5 l,afq];rw[aem];simp only[aeT,decide_eq_true_eq,Classical.not_and_iff_not_or_not,afD]
theorem aaD(s:Sl Pc)(hl:s.l.length<=1000000)(h:Heap):(mu K).fn 66 [s.avS Pc.av] h=some (.val (.bool (twP s.l)) h):=by
 rw[N5];exact f66 s.nl s.l hl h
end Go.Ab.Pn
/-
  The check of a plan: program and reference.
-/
namespace Go.Ab.Pn
open Go.Ab.Pol
set_option maxRecDepth 100000
set_option maxHeartbeats 4000000
/- The first error of a list. -/
def eF{α:Type}(e:α->Int)(_:Unit)(x:α):Unit ⊕ Int:=if e x=0 then .inl () else .inr (e x)
def Ci{α:Type}(e:α->Int):List α->Int
 | []=>0
 |x :: l=>if e x≠0 then e x else Ci e l
theorem zz{α:Type}(e:α->Int):∀ l:List α,iter (eF e) () l=if Ci e l=0 then .inl () else .inr (Ci e l)
 | []=>rfl
 |x :: l=>by
  simp only[iter,eF,Ci];by_cases h:e x=0
  ·simp[h,zz e l]
  ·simp[h]
theorem FZ(n:Nat):∀ l:List Pt,vX n l=Ci (λa=>ptE a n) l
 | []=>rfl
 |a :: l=>by simp only[vX,Ci,FZ n l]
def sqE(n:Nat)(a:Pt):Int:=if a.kind≠2 then 1 else ptE a n
theorem F3(n:Nat):∀ l:List Pt,Cg n l=Ci (sqE n) l
 | []=>rfl
 |a :: l=>by
  simp only[Cg,Ci,sqE,F3 n l];by_cases h:a.kind≠2
  ·simp[h]
  ·simp[h]
def pcE(x:Pc):Int:=if xB x=true then 2 else 0
theorem JN:∀ l:List Pc,Ci pcE l=if l.any xB=true then 2 else 0
 | []=>rfl
 |x :: l=>by
  simp only[Ci,pcE,JN l,aeJ];by_cases h:xB x=true<;>simp[h]
structure SzP (p:Pl):Prop where
 iN:p.iN.l.length<=1000
 comm:p.comm.l.length<=1000
 atoms:p.atoms.l.length<=1000
 sq:p.sq.l.length<=1000
 gates:okG p.gates.l
/- Ie that aaB twice: the reference. -/
theorem Ed(x:Pc):∀ l:List Pc,iter (λ(_:Unit) (y:Pc)=>if x=y then (.inr ():Unit ⊕ Unit) else .inl ()) () l=if x∈l then .inr () else .inl ()
 | []=>rfl
 |y :: l=>by
  simp only[iter];by_cases h:x=y
  ·simp[h]
  ·simp[h,Ed x l]
end Go.Ab.Pn
