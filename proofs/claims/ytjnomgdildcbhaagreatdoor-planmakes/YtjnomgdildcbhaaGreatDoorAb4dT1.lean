/-
  The nodes of a normal form, as the program writes them: thresholds.
-/
import Derived.Test.YtjnomgdildcbhaaGreatDoorAb4dP101
import Derived.Test.YtjnomgdildcbhaaGreatDoorAb4dQ22
import Derived.Test.YtjnomgdildcbhaaGreatDoorAb4dS21
import Derived.Test.YtjnomgdildcbhaaGreatDoorAbPlan
import Derived.Test.YtjnomgdildcbhaaGreatDoorAb4dP10
import Derived.Test.YtjnomgdildcbhaaGreatDoorAb4dP7
import Derived.Test.YtjnomgdildcbhaaGreatDoorAb4dP22
import Derived.Test.YtjnomgdildcbhaaGreatDoorAb4d
import Derived.Test.YtjnomgdildcbhaaGreatDoorAbSem
import Derived.Test.YtjnomgdildcbhaaGreatDoorAbNf
set_option linter.all false
set_option maxRecDepth 100000
set_option maxHeartbeats 4000000
namespace Go.Ab.Pn
open Go.Ab.Pol
mutual
def WOk:Cd->Prop
 |.atom _ _ vs=>vs.length<=1000
 |.gate _ ks=>ks≠[]∧QK ks
def QK:List Cd->Prop
 | []=>True
 |c::cs=>WOk c∧QK cs
end
def wrF:Cd->FuncId
 |.atom _ _ _=>277
 |.gate _ _=>278
abbrev tE(j5:Int)(ks:List Cd):AV:=.agg [iV j5,.lst (ks.map aX)]
def wrV:Cd->AV
 |.atom k num vs=>Ca k num vs
 |.gate j5 ks=>tE j5 ks
def J7(c:Cd):Prop:=∀(N:List Nd) (h:Heap) (a:Loc),1<=N.length->N.length+c.size<=100000->hget h a=some (ndQ N) ->
 (mu K).fn (wrF c) [wrV c,.own a N.length] h=some (.val (.own a (N.length+c.size)) (aQ h a (ndQ (N++flat N.length c))))
def kdB:List Int->Blk
 | []=>.arr 0 0 false []
 |x::l=>.arr 3 1 false ((x::l).map iV)
theorem Iy(l:List Int):∃t z,kdB l=.arr t z false (l.map iV)∧(z=0∨t=3∧z=1):=by
 cases l with
 |nil=>exact⟨0,0,rfl,.inl rfl⟩
 |cons x l=>exact⟨3,1,rfl,.inr ⟨rfl,rfl⟩⟩
theorem Mb(l:List Int)(x:Int):kdB (l++[x])=.arr 3 1 false ((l++[x]).map iV):=by cases l<;>rfl
def gtN(N:List Nd)(j5:Int)(j4:List Cd):List Nd:=N++br N.length 5 j5 0::gJ (N.length+1) j4
theorem jf(N:List Nd)(j5:Int)(j4:List Cd):(gtN N j5 j4).length=N.length+1+Cd.sizes j4:=by simp[gtN,za];omega
theorem CK:∀(j4:List Cd) (b:Nat) (c:Cd),gJ b (j4++[c])=gJ b j4++flat (b+Cd.sizes j4) c
 | [],b,c=>by simp[gJ,Cd.sizes]
 |x::j4,b,c=>by
  simp only[afo,gJ,Cd.sizes,CK j4,afX];rw[af5]
theorem Iz(N:List Nd)(j5:Int)(j4:List Cd)(c:Cd):gtN N j5 (j4++[c])=gtN N j5 j4++flat (gtN N j5 j4).length c:=by
 rw[jf];unfold gtN;rw[CK];simp
theorem gy:∀(j4:List Cd) (b:Nat) (c:Cd),starts b (j4++[c])=starts b j4++[((b+Cd.sizes j4:Nat):Int)]
 | [],b,c=>by simp[starts,Cd.sizes]
 |x::j4,b,c=>by
  simp only[afo,starts,Cd.sizes,gy j4,afH,true_and];rw[af5]
theorem Ac(c:Cd)(l:List Cd):Cd.sizes (l++[c])=Cd.sizes l+c.size:=by rw[eH];simp[Cd.sizes]
theorem Xv(j5:Int)(N:List Nd)(ks:List Cd)(hW:∀c∈ks,J7 c)(hN:N.length+1+Cd.sizes ks<=100000)(h:Heap)(a:Loc)(hd:dom h a) :
  ∃j3,(mu K).code (.af 2 [1,5,6,18,19,20] iq) ⟨[(1,.own a (N.length+1)),(5,iV (N.length:Int)),(6,.own (h.length,1) 0),(18,.lst (ks.map aX)),(19,iV (ks.length:Int)),(20,iV 0)],[.box 254 false (tE j5 ks),.arr 0 0 false []]::aQ h a (ndQ (gtN N j5 []))⟩ =
   some (.exit 0,⟨j3,[.box 254 false (tE j5 ks),kdB (starts (N.length+1) ks)]::aQ h a (ndQ (gtN N j5 ks))⟩)∧get j3 1=.own a (N.length+1+Cd.sizes ks)∧get j3 5=iV (N.length:Int)∧get j3 6=.own (h.length,1) ks.length:=by
 have hks:=cZ ks;have key:=aB (K:=K) (n:=2) (live:=[1,5,6,18,19,20]) (a:=iq) (ρ:=Unit) (λ(_:Unit) (x:Cd)=>(.inl ():Unit ⊕ Unit))
  (λj4 _=>⟨[(1,.own a (N.length+1+Cd.sizes j4)),(5,iV (N.length:Int)),(6,.own (h.length,1) j4.length),(18,.lst (ks.map aX)),(19,iV (ks.length:Int)),(20,iV (j4.length:Int))],[.box 254 false (tE j5 ks),kdB (starts (N.length+1) j4)]::aQ h a (ndQ (gtN N j5 j4))⟩)
  (λ_ _=>True)
  (λ_ o=>∃j3,o=some (.exit 0,⟨j3,[.box 254 false (tE j5 ks),kdB (starts (N.length+1) ks)]::aQ h a (ndQ (gtN N j5 ks))⟩)∧get j3 1=.own a (N.length+1+Cd.sizes ks)∧get j3 5=iV (N.length:Int)∧get j3 6=.own (h.length,1) ks.length)
  (λ_ _=>False) ks
  (λj4 c r b hl' hb=>by
   obtain⟨h1,h2,w1⟩:=aA hl' (by omega);have hsz:Cd.sizes ks=Cd.sizes j4+(c.size+Cd.sizes r):=by rw[hl',eH];rfl
   have hix:=λ(kk:IntKind)=>cG (sz:=1) (l:=ks.map aX) (k:=kk) (j:=(j4.length:Int)) (v:=aX c) (by omega) (by simp[h2]) (by simp)
   have r3:(j4.length+1)*8<=room:=by unfold room;omega
   have r4:j4.length+1<=room:=by unfold room;omega
   obtain⟨t0,z0,hkB,hz⟩:=Iy (starts (N.length+1) j4);have hz:(z0=0∨t0=3∧z0=1)=True:=by simp[hz]
   have hkl:((starts (N.length+1) j4).map iV).length=j4.length:=by rw[afv,bJ]
   have hst:(starts (N.length+1) (j4++[c])).map iV=(starts (N.length+1) j4).map iV++[iV ((N.length:Int)+1+(Cd.sizes j4:Int))]:=by
    rw[gy,afE,afj,afw]
    congr 3
   have n1:=pG hd;have gs:=λB=>fq hd B
   have ss:=λB C=>cO h a B C
   have hl:=λB=>bp h a B
   have hg:hget ([.box 254 false (tE j5 ks),.arr 3 1 false ((starts (N.length+1) (j4++[c])).map iV)]::aQ h a (ndQ (gtN N j5 j4))) a=some (ndQ (gtN N j5 j4)):=by simp[n1,gs,hl]
   have W:=hW c (afB h2) (gtN N j5 j4) ([.box 254 false (tE j5 ks),.arr 3 1 false ((starts (N.length+1) (j4++[c])).map iV)]::aQ h a (ndQ (gtN N j5 j4))) a (by rw[jf];omega) (by rw[jf];omega) hg;have e3:N.length+1+Cd.sizes (j4++[c])=N.length+1+Cd.sizes j4+c.size:=by rw[Ac];omega
   refine⟨λb' e=>⟨trivial,?_⟩,λ_ e=>by cases e⟩;rw[aj];generalize (mu K).code _=FF;rw[e3,Iz,gy,Mb,<-gy];rw[jf]at W⊢;rw[hst]at W⊢;rw[hkB];simp only[ndQ,afE]at W⊢;have hEl:((gtN N j5 j4).map Nd.av).length=N.length+1+Cd.sizes j4:=by rw[afv,jf]
   generalize (starts (N.length+1) j4).map iV=KS at *
   generalize (gtN N j5 j4).map Nd.av=E at *
   generalize (flat (N.length+1+Cd.sizes j4) c).map Nd.av=E2 at *
   clear hl' hg;cases c with
   |atom ck cn vs=>
    have hd:aX (.atom ck cn vs)=NB ck cn vs:=by rw[aX]
    rw[hd]at hix;simp only[wrF,wrV]at W;generalize (Cd.atom ck cn vs).size=Z at *
    simp[iq,KL,aa,h1,hix,w1,hz,hkl,r3,r4,W,n1,ss,hl]
   |gate cn cks=>
    have hd:aX (.gate cn cks)=.iface 254 (tE cn cks):=by rw[aX,fV]
    rw[hd]at hix;simp only[wrF,wrV]at W;generalize (Cd.gate cn cks).size=Z at *
    have lk:List.lookup (254:TypeId) [((252:TypeId),(277:FuncId)),(254,278)]=some 278:=rfl;simp[iq,KL,aa,h1,hix,w1,hz,hkl,r3,r4,W,lk,n1,ss,hl])
  (λb hb=>by
   have n1:=pG hd;have gs:=λB=>fq hd B
   have ss:=λB C=>cO h a B C
   have hl:=λB=>bp h a B
   rw[aj];generalize (mu K).code _=FF;simp[iq]) () trivial
 have e:iter (λ(_:Unit) (x:Cd)=>(.inl ():Unit ⊕ Unit)) () ks=.inl ():=by
  generalize ks=l
  induction l with
  |nil=>rfl
  |cons x l ih=>simpa[iter]using ih
 rw[e]at key;simpa[Cd.sizes,starts,kdB]using key.2
theorem Xw(j5:Int)(N:List Nd)(ks:List Cd)(hW:∀c∈ks,J7 c)(hN:N.length+1+Cd.sizes ks<=100000)(h:Heap) :
  ∃j3,(mu K).code (.af 3 [1,5,6,18,19,20] iq) ⟨[(1,.own (h.length,1) (N.length+1)),(5,iV (N.length:Int)),(6,.own (h.length,2) 0),(18,.lst (ks.map aX)),(19,iV (ks.length:Int)),(20,iV 0)],[.box 254 false (tE j5 ks),ndQ (gtN N j5 []),.arr 0 0 false []]::h⟩ =
   some (.exit 0,⟨j3,[.box 254 false (tE j5 ks),ndQ (gtN N j5 ks),kdB (starts (N.length+1) ks)]::h⟩)∧get j3 1=.own (h.length,1) (N.length+1+Cd.sizes ks)∧get j3 5=iV (N.length:Int)∧get j3 6=.own (h.length,2) ks.length:=by
 have hks:=cZ ks;have key:=aB (K:=K) (n:=3) (live:=[1,5,6,18,19,20]) (a:=iq) (ρ:=Unit) (λ(_:Unit) (x:Cd)=>(.inl ():Unit ⊕ Unit))
  (λj4 _=>⟨[(1,.own (h.length,1) (N.length+1+Cd.sizes j4)),(5,iV (N.length:Int)),(6,.own (h.length,2) j4.length),(18,.lst (ks.map aX)),(19,iV (ks.length:Int)),(20,iV (j4.length:Int))],[.box 254 false (tE j5 ks),ndQ (gtN N j5 j4),kdB (starts (N.length+1) j4)]::h⟩)
  (λ_ _=>True)
  (λ_ o=>∃j3,o=some (.exit 0,⟨j3,[.box 254 false (tE j5 ks),ndQ (gtN N j5 ks),kdB (starts (N.length+1) ks)]::h⟩)∧get j3 1=.own (h.length,1) (N.length+1+Cd.sizes ks)∧get j3 5=iV (N.length:Int)∧get j3 6=.own (h.length,2) ks.length)
  (λ_ _=>False) ks
  (λj4 c r b hl' hb=>by
   obtain⟨h1,h2,w1⟩:=aA hl' (by omega);have hsz:Cd.sizes ks=Cd.sizes j4+(c.size+Cd.sizes r):=by rw[hl',eH];rfl
   have hix:=λ(kk:IntKind)=>cG (sz:=1) (l:=ks.map aX) (k:=kk) (j:=(j4.length:Int)) (v:=aX c) (by omega) (by simp[h2]) (by simp)
   have r3:(j4.length+1)*8<=room:=by unfold room;omega
   have r4:j4.length+1<=room:=by unfold room;omega
   obtain⟨t0,z0,hkB,hz⟩:=Iy (starts (N.length+1) j4);have hz:(z0=0∨t0=3∧z0=1)=True:=by simp[hz]
   have hkl:((starts (N.length+1) j4).map iV).length=j4.length:=by rw[afv,bJ]
   have hst:(starts (N.length+1) (j4++[c])).map iV=(starts (N.length+1) j4).map iV++[iV ((N.length:Int)+1+(Cd.sizes j4:Int))]:=by
    rw[gy,afE,afj,afw]
    congr 3
   have hg:hget ([.box 254 false (tE j5 ks),ndQ (gtN N j5 j4),.arr 3 1 false ((starts (N.length+1) (j4++[c])).map iV)]::h) (h.length,1)=some (ndQ (gtN N j5 j4)):=by simp
   have W:=hW c (afB h2) (gtN N j5 j4) ([.box 254 false (tE j5 ks),ndQ (gtN N j5 j4),.arr 3 1 false ((starts (N.length+1) (j4++[c])).map iV)]::h) (h.length,1) (by rw[jf];omega) (by rw[jf];omega) hg;have e3:N.length+1+Cd.sizes (j4++[c])=N.length+1+Cd.sizes j4+c.size:=by rw[Ac];omega
   refine⟨λb' e=>⟨trivial,?_⟩,λ_ e=>by cases e⟩;rw[aj];generalize (mu K).code _=FF;rw[e3,Iz,gy,Mb,<-gy];rw[jf]at W⊢;rw[hst]at W⊢;rw[hkB];simp only[ndQ,afE]at W⊢;have hEl:((gtN N j5 j4).map Nd.av).length=N.length+1+Cd.sizes j4:=by rw[afv,jf]
   generalize (starts (N.length+1) j4).map iV=KS at *
   generalize (gtN N j5 j4).map Nd.av=E at *
   generalize (flat (N.length+1+Cd.sizes j4) c).map Nd.av=E2 at *
   clear hl' hg;cases c with
   |atom ck cn vs=>
    have hd:aX (.atom ck cn vs)=NB ck cn vs:=by rw[aX]
    rw[hd]at hix;simp only[wrF,wrV]at W;generalize (Cd.atom ck cn vs).size=Z at *
    simp[iq,KL,aa,h1,hix,w1,hz,hkl,r3,r4,W]
   |gate cn cks=>
    have hd:aX (.gate cn cks)=.iface 254 (tE cn cks):=by rw[aX,fV]
    rw[hd]at hix;simp only[wrF,wrV]at W;generalize (Cd.gate cn cks).size=Z at *
    have lk:List.lookup (254:TypeId) [((252:TypeId),(277:FuncId)),(254,278)]=some 278:=rfl;simp[iq,KL,aa,h1,hix,w1,hz,hkl,r3,r4,W,lk])
  (λb hb=>by
   rw[aj];generalize (mu K).code _=FF;simp[iq]) () trivial
 have e:iter (λ(_:Unit) (x:Cd)=>(.inl ():Unit ⊕ Unit)) () ks=.inl ():=by
  generalize ks=l
  induction l with
  |nil=>rfl
  |cons x l ih=>simpa[iter]using ih
 rw[e]at key;simpa[Cd.sizes,starts,kdB]using key.2
end Go.Ab.Pn
namespace Go.Ab.Pn
open Go.Ab.Pol
theorem Mc(N:List Nd)(j5:Int)(ks:List Cd):((gtN N j5 ks).map Nd.av)[N.length]?=some (.agg [iV 5,iV j5,.str [],.str [],.ay,iV 0]):=by
 unfold gtN;rw[afE,afT (by simp)];simp[jB]
theorem Md(N:List Nd)(j5:Int)(ks:List Cd)(h0:ks≠[]):((gtN N j5 ks).map Nd.av).set N.length (.agg [iV 5,iV j5,.str [],.str [],.lst ((starts (N.length+1) ks).map iV),iV 0])=(N++flat N.length (.gate j5 ks)).map Nd.av:=by
 have hs:starts (N.length+1) ks≠[]:=λe=>h0 (agO.1 (by rw[<-bJ ks (N.length+1),e];rfl))
 have hs2:(starts (N.length+1) ks).map iV≠[]:=by simpa using hs
 unfold gtN;rw[afE,agZ _ _ (by simp)];simp only[flat,afv,Nat.sub_self,afj,List.set_cons_zero,afE]
 congr 2
 simp[cj,Sl.avS,gu true hs2]
theorem QL{l:List Int}(h:l≠[]):kdB l=.arr 3 1 false (l.map iV):=by
 cases l with
 |nil=>exact absurd rfl h
 |cons x l=>rfl
theorem ab4(j5:Int)(ks:List Cd)(h0:ks≠[])(hW:∀c∈ks,J7 c):J7 (.gate j5 ks):=λN h a hN1 hN ha=>by
 have hd:=gL ha;have hsz:(Cd.gate j5 ks).size=Cd.sizes ks+1:=rfl;rw[hsz]at hN⊢;obtain⟨j3,kl,g1,g5,g6⟩:=Xv j5 N ks hW (by omega) h a hd;have n1:=pG hd;have gs:=λB=>fq hd B
 have ss:=λB C=>cO h a B C
 have hl:=λB=>bp h a B
 have ll:=eD hd;have e0:(gtN N j5 []).map Nd.av=N.map Nd.av++[.agg [iV 5,iV j5,.str [],.str [],.ay,iV 0]]:=by
  simp[gtN,gJ,jB]
 have r1:(N.length+1)*80<=room:=by unfold room;omega
 have r2:N.length+1<=room:=by unfold room;omega
 have p1:(0<N.length)=True:=eq_true (by omega);have hNl:(N.map Nd.av).length=N.length:=by simp
 have hE:=Mc N j5 ks;have hS:=Md N j5 ks h0;have hEl:((gtN N j5 ks).map Nd.av).length=N.length+1+Cd.sizes ks:=by rw[afv,jf]
 have hs:starts (N.length+1) ks≠[]:=λe=>h0 (agO.1 (by rw[<-bJ ks (N.length+1),e];rfl))
 have hSl:((starts (N.length+1) ks).map iV).length=ks.length:=by rw[afv,bJ]
 have i1:((N.length:Int)<(N.length:Int)+1+(Cd.sizes ks:Int))=True:=eq_true (by omega);have i2:(N.length<N.length+1+Cd.sizes ks)=True:=eq_true (by omega);have k0:(0<ks.length)=True:=eq_true (agz.2 h0);have hE2:=jP hE;rw[QL hs]at kl;simp only[ndQ,wrF,wrV]at kl ha⊢;rw[e0]at kl;rw[<-hS];have hkc:(ks.map aX).length=ks.length:=by simp
 have e4:N.length+(Cd.sizes ks+1)=N.length+1+Cd.sizes ks:=by omega
 rw[e4];rw[aC (KX _ _ _) U7 rfl (by simp[OZ])];generalize (starts (N.length+1) ks).map iV=S at *
 generalize N.map Nd.av=M at *
 generalize (gtN N j5 ks).map Nd.av=E at *
 clear hS;simp[OZ,ha,n1,r1,r2,p1,hNl,kl,g1,g5,g6,ll,gs,ss,hl,hE2,hEl,hSl,i1,i2,k0,hkc]
theorem ab5(j5:Int)(ks:List Cd)(h0:ks≠[])(hW:∀c∈ks,J7 c)(hs0:Cd.sizes ks<=90000)(h:Heap) :
  (mu K).fn 278 [tE j5 ks,.ay] h=some (.val (.lst ((flat 0 (.gate j5 ks)).map Nd.av)) h):=by
 obtain⟨j3,kl,g1,g5,g6⟩:=Xw j5 [] ks hW (by simp;omega) h;have e0:(gtN [] j5 []).map Nd.av=[.agg [iV 5,iV j5,.str [],.str [],.ay,iV 0]]:=by
  simp[gtN,gJ,jB]
 have r1:80<=room:=by unfold room;omega
 have r2:1<=room:=by unfold room;omega
 have hE:=Mc [] j5 ks;have hS:=Md [] j5 ks h0;have hEl:((gtN [] j5 ks).map Nd.av).length=1+Cd.sizes ks:=by rw[afv,jf];simp
 have hs:starts 1 ks≠[]:=λe=>h0 (agO.1 (by rw[<-bJ ks 1,e];rfl))
 have hSl:((starts 1 ks).map iV).length=ks.length:=by rw[afv,bJ]
 have i1:((0:Int)<1+(Cd.sizes ks:Int))=True:=eq_true (by omega);have i2:(0<1+Cd.sizes ks)=True:=eq_true (by omega);have k0:(0<ks.length)=True:=eq_true (agz.2 h0);simp only[iO,afu,afq,afl]at hE hS kl g1 g5 g6;have hE2:=jP hE;have hS2:(((gtN [] j5 ks).map Nd.av).set 0 (.agg [iV 5,iV j5,.str [],.str [],.lst ((starts 1 ks).map iV),iV 0])).length=1+Cd.sizes ks:=by rw[afY,hEl]
 rw[QL hs]at kl;simp only[ndQ]at kl⊢;rw[e0]at kl;rw[<-hS];have hkc:(ks.map aX).length=ks.length:=by simp
 rw[aC (KX _ _ _) U7 rfl (by simp[OZ])];generalize (starts 1 ks).map iV=S at *
 generalize (gtN [] j5 ks).map Nd.av=E at *
 clear hS;simp[OZ,r1,r2,kl,g1,g5,g6,hE2,hEl,hSl,i1,i2,k0,hkc,hS2]
mutual
theorem ab6:∀c:Cd,WOk c->J7 c
 |.atom k num vs,hv=>λN h a h1 h2 ha=>by
  have hsz:(Cd.atom k num vs).size=vs.length+1:=rfl;rw[hsz]at h2⊢;have:=abd k num N vs ⟨h1,by omega⟩ hv h a ha;rw[show N.length+(vs.length+1)=N.length+1+vs.length by omega];exact this
 |.gate j5 ks,hv=>ab4 j5 ks hv.1 (J8 ks hv.2)
theorem J8:∀cs:List Cd,QK cs->∀c∈cs,J7 c
 | [],_,c,hc=>by cases hc
 |x::cs,h,c,hc=>by
  rcases afp.1 hc with e|hc
  ·rw[e];exact ab6 x h.1
  ·exact J8 cs h.2 c hc
end
theorem Xx(c:Cd)(hc:WOk c)(hs:c.size<=90000)(h:Heap):(mu K).fn (wrF c) [wrV c,.ay] h=some (.val (.lst ((flat 0 c).map Nd.av)) h):=by
 cases c with
 |atom k num vs=>exact abe k num vs hc h
 |gate j5 ks=>exact ab5 j5 ks hc.1 (J8 ks hc.2) (by simp only[Cd.size]at hs;omega) h
end Go.Ab.Pn
namespace Go.Ab.Pn
open Go.Ab.Pol
inductive RT
 |nd (n:Nd) (ks:List RT)
mutual
def RT.av:RT->AV
 |.nd n ks=>.agg [iV n.k,iV n.num,.str n.nm,.str n.attr,.ay,iV 0,lv true (RT.avs ks)]
def RT.avs:List RT->List AV
 | []=>[]
 |t::ts=>t.av::RT.avs ts
end
theorem RT.kT:∀ts:List RT,RT.avs ts=ts.map RT.av
 | []=>rfl
 |t::ts=>by simp[RT.avs,RT.kT ts]
mutual
def RT.size:RT->Nat
 |.nd _ ks=>RT.sizes ks+1
def RT.sizes:List RT->Nat
 | []=>0
 |t::ts=>t.size+RT.sizes ts
end
def bW:Nat->List RT->List Int
 |_,[]=>[]
 |b,t::ts=>(b:Int)::bW (b+t.size) ts
def rN2(n:Nd)(ks:List Int):Nd:=⟨n.k,n.num,n.nm,n.attr,⟨true,ks⟩,0⟩
mutual
def mh:Nat->RT->List Nd
 |b,.nd n ks=>rN2 n (bW (b+1) ks)::gP (b+1) ks
def gP:Nat->List RT->List Nd
 |_,[]=>[]
 |b,t::ts=>mh b t++gP (b+t.size) ts
end
mutual
theorem EE:∀(b:Nat) (t:RT),(mh b t).length=t.size
 |b,.nd n ks=>by simp[mh,RT.size,vh (b+1) ks]
theorem vh:∀(b:Nat) (ts:List RT),(gP b ts).length=RT.sizes ts
 |b,[]=>rfl
 |b,t::ts=>by simp[gP,RT.sizes,EE b t,vh (b+t.size) ts]
end
theorem J9(t:RT):1<=t.size:=by cases t;simp[RT.size]
theorem kj:∀a b:List RT,RT.sizes (a++b)=RT.sizes a+RT.sizes b
 | [],b=>by simp[RT.sizes]
 |t::a,b=>by simp[RT.sizes,kj a b];omega
theorem ku:∀ts:List RT,ts.length<=RT.sizes ts
 | []=>afm _
 |t::ts=>by have:=ku ts;have:=J9 t;simp only[RT.sizes,Io];omega
theorem Ad:∀(j4:List RT) (b:Nat) (c:RT),gP b (j4++[c])=gP b j4++mh (b+RT.sizes j4) c
 | [],b,c=>by simp[gP,RT.sizes]
 |x::j4,b,c=>by
  simp only[afo,gP,RT.sizes,Ad j4,afX];rw[af5]
theorem pQ:∀(j4:List RT) (b:Nat) (c:RT),bW b (j4++[c])=bW b j4++[((b+RT.sizes j4:Nat):Int)]
 | [],b,c=>by simp[bW,RT.sizes]
 |x::j4,b,c=>by
  simp only[afo,bW,RT.sizes,pQ j4,afH,true_and];rw[af5]
theorem rO:∀(ts:List RT) (b:Nat),(bW b ts).length=ts.length
 | [],_=>rfl
 |t::ts,b=>by simp[bW,rO ts]
mutual
def CM:Cd->RT
 |.atom k num vs=>.nd ⟨k,num,[],[],⟨true,[]⟩,0⟩ (vs.map λv=>.nd v [])
 |.gate j5 ks=>.nd ⟨5,j5,[],[],⟨true,[]⟩,0⟩ (tN ks)
def tN:List Cd->List RT
 | []=>[]
 |c::cs=>CM c::tN cs
end
theorem QM(vs:List Nd):RT.avs (vs.map λv=>.nd v [])=vs.map lV:=by
 rw[RT.kT,af0];rfl
mutual
theorem Ve:∀c:Cd,WOk c->(CM c).av=bB c
 |.atom k num vs,_=>by
  simp only[CM,RT.av,QM];show _=AV.agg [iV k,iV num,.str [],.str [],.ay,iV 0,rS (.atom k num vs)];rw[show rS (.atom k num vs)=lv true (vs.map lV) by simp[rS]]
 |.gate j5 ks,h=>by
  have e:=QN ks h.2;have hne:rcs ks≠[]:=by
   rw[wI];intro q;exact h.1 (List.map_eq_nil_iff.1 q)
  have q:lv true (rcs ks)=.lst (rcs ks):=gu true hne;simp only[CM,RT.av,e,q];show _=AV.agg [iV 5,iV j5,.str [],.str [],.ay,iV 0,rS (.gate j5 ks)];rw[show rS (.gate j5 ks)=.lst (rcs ks) by simp[rS]]
theorem QN:∀cs:List Cd,QK cs->RT.avs (tN cs)=rcs cs
 | [],_=>rfl
 |c::cs,h=>by
  have e:=Ve c h.1;simp only[tN,RT.avs,rcs,e,QN cs h.2]
end
theorem mj:∀vs:List Nd,RT.sizes (vs.map λv=>.nd v [])=vs.length
 | []=>rfl
 |v::vs=>by simp[RT.sizes,RT.size,mj vs];omega
theorem wR:∀(vs:List Nd) (b:Nat),bW b (vs.map λv=>.nd v [])=upI b vs.length
 | [],b=>rfl
 |v::vs,b=>by
  rw[Io,G7];simp[bW,RT.size,RT.sizes,wR vs]
theorem Ae:∀(vs:List Nd) (b:Nat),gP b (vs.map λv=>.nd v [])=vs.map aM
 | [],b=>rfl
 |v::vs,b=>by simp[gP,mh,bW,Ae vs,aM,rN2]
mutual
theorem A3:∀c:Cd,(CM c).size=c.size
 |.atom k num vs=>by simp[CM,RT.size,Cd.size,mj]
 |.gate j5 ks=>by simp[CM,RT.size,Cd.size,IA ks]
theorem IA:∀cs:List Cd,RT.sizes (tN cs)=Cd.sizes cs
 | []=>rfl
 |c::cs=>by simp[tN,RT.sizes,Cd.sizes,A3 c,IA cs]
end
theorem CN:∀(cs:List Cd) (b:Nat),bW b (tN cs)=starts b cs
 | [],b=>rfl
 |c::cs,b=>by simp[tN,bW,starts,A3 c,CN cs]
mutual
theorem Me:∀(b:Nat) (c:Cd),mh b (CM c)=flat b c
 |b,.atom k num vs=>by simp[CM,mh,flat,wR,Ae,rN2,br]
 |b,.gate j5 ks=>by simp[CM,mh,flat,CN,IB (b+1) ks,rN2,cj]
theorem IB:∀(b:Nat) (cs:List Cd),gP b (tN cs)=gJ b cs
 |b,[]=>rfl
 |b,c::cs=>by simp[tN,gP,gJ,A3 c,Me b c,IB (b+c.size) cs]
end
mutual
theorem Ka:∀t:RT,t.av.beq t.av=true
 |.nd n ks=>by
  have h:=Gc ks;simp only[RT.av];cases hk:RT.avs ks with
  |nil=>simp[lv,AV.beq,AV.dh]
  |cons x l=>rw[hk]at h;simp[lv,AV.beq,AV.dh];simpa[AV.dh]using h
theorem Gc:∀ts:List RT,AV.dh (RT.avs ts) (RT.avs ts)=true
 | []=>by simp[RT.avs,AV.dh]
 |t::ts=>by simp[RT.avs,AV.dh,Ka t,Gc ts]
end
theorem om(ts:List RT):(lv true (ts.map RT.av)).beq (lv true (ts.map RT.av))=true:=by
 have h:=Gc ts;rw[RT.kT]at h;cases hk:ts.map RT.av with
 |nil=>simp[lv,AV.beq]
 |cons x l=>rw[hk]at h;simpa[lv,AV.beq]using h
@[simp] theorem IC (t:RT):t.av.isAgg=true:=by cases t;simp [RT.av,AV.isAgg]
@[simp] theorem EF (t:RT):t.av.cells.length=7:=by cases t;simp [RT.av,AV.cells]
theorem ID(q:Loc->Bool)(l:List AV):(lv true l).aO q=true:=by cases l<;>simp[lv,AV.aO]
@[simp] theorem QO (q:Loc->Bool) (t:RT):t.av.aO q=true:=by cases t;simp [RT.av,AV.aO,AV.cD]
@[simp] theorem Mf (q:Loc->Bool) (t:RT) (h:Heap):t.av.view q h=some (t.av,h):=nX _ (QO _ _) _ _
abbrev ndR(ns:List Nd):Blk:=.arq 90 6 4 3 1 [] (ns.map Nd.av)
def CP(t:RT):Prop:=∀(N:List Nd) (h:Heap) (a:Loc),1<=N.length->N.length+t.size<=100000->hget h a=some (ndR N) ->
 (mu K).fn 92 [.own a N.length,t.av] h=some (.val (.own a (N.length+t.size)) (aQ h a (ndR (N++mh N.length t))))
def pN(N:List Nd)(n:Nd)(j4:List RT):List Nd:=N++rN2 n (bW (N.length+1) j4)::gP (N.length+1) j4
def pX(N:List Nd)(n:Nd)(j4:List RT)(c:RT):List Nd:=N++rN2 n (bW (N.length+1) j4)::gP (N.length+1) (j4++[c])
theorem rP(N:List Nd)(n:Nd)(j4:List RT):(pN N n j4).length=N.length+1+RT.sizes j4:=by simp[pN,vh];omega
theorem QS(N:List Nd)(n:Nd)(j4:List RT)(c:RT):pN N n j4++mh (N.length+1+RT.sizes j4) c=pX N n j4 c:=by
 unfold pN pX;rw[Ad];simp
theorem QT(N:List Nd)(n:Nd)(j4:List RT)(c:RT):((pX N n j4 c).map Nd.av)[N.length]?=some (rN2 n (bW (N.length+1) j4)).av:=by
 unfold pX;rw[afE,afT (by simp)];simp
theorem QU(N:List Nd)(n:Nd)(j4:List RT)(c:RT):((pX N n j4 c).map Nd.av).set N.length (rN2 n (bW (N.length+1) (j4++[c]))).av=(pN N n (j4++[c])).map Nd.av:=by
 unfold pN pX;rw[afE,agZ _ _ (by simp)];simp
theorem QV(N:List Nd)(n:Nd)(j4:List RT)(c:RT):((pX N n j4 c).map Nd.av).length=N.length+1+RT.sizes j4+c.size:=by
 rw[<-QS,afv,afr,rP,EE]
theorem A4(n:Nd):(rN2 n []).av=.agg [iV n.k,iV n.num,.str n.nm,.str n.attr,.ay,iV 0]:=by simp[rN2,Sl.avS,lv]
theorem oq(n:Nd)(x:Int)(l:List Int):(rN2 n (x::l)).av=.agg [iV n.k,iV n.num,.str n.nm,.str n.attr,.lst (iV x::l.map iV),iV 0]:=by simp[rN2,Sl.avS,lv]
end Go.Ab.Pn
namespace Go.Ab.Pn
open Go.Ab.Pol
theorem IE:c92.body=.code (.seq KY (.seq KZ (.seq K0 (.seq K1 (.seq K3 K6))))):=rfl
theorem ab7(n:Nd)(N:List Nd)(ks:List RT)(hW:∀c∈ks,CP c)(hN:N.length+1+RT.sizes ks<=100000)(h:Heap)(a:Loc)(hd:dom h a) :
  ∃j3,(mu K).code (.af 1 [0,3,5,6] lC) ⟨[(0,.own a (N.length+1)),(3,.ptr (h.length,0) 0),(5,iV (N.length:Int)),(6,iV 0)],[.box 185 false (RT.nd n ks).av]::aQ h a (ndR (pN N n []))⟩ =
   some (.exit 0,⟨j3,[.box 185 false (RT.nd n ks).av]::aQ h a (ndR (pN N n ks))⟩)∧get j3 0=.own a (N.length+1+RT.sizes ks):=by
 have hks:=ku ks;have key:=aB (K:=K) (n:=1) (live:=[0,3,5,6]) (a:=lC) (ρ:=Unit) (λ(_:Unit) (x:RT)=>(.inl ():Unit ⊕ Unit))
  (λj4 _=>⟨[(0,.own a (N.length+1+RT.sizes j4)),(3,.ptr (h.length,0) 0),(5,iV (N.length:Int)),(6,iV (j4.length:Int))],[.box 185 false (RT.nd n ks).av]::aQ h a (ndR (pN N n j4))⟩)
  (λ_ _=>True)
  (λ_ o=>∃j3,o=some (.exit 0,⟨j3,[.box 185 false (RT.nd n ks).av]::aQ h a (ndR (pN N n ks))⟩)∧get j3 0=.own a (N.length+1+RT.sizes ks))
  (λ_ _=>False) ks
  (λj4 c r b hl' hb=>by
   obtain⟨h1,h2,w1⟩:=aA hl' (by omega);have hp:j4.length<ks.length:=(aft.1 h2).1;have hsz:RT.sizes ks=RT.sizes j4+(c.size+RT.sizes r):=by rw[hl',kj];rfl
   have hpl:=ku j4;have hc1:=J9 c;have hav:(RT.nd n ks).av=.agg [iV n.k,iV n.num,.str n.nm,.str n.attr,.ay,iV 0,lv true (ks.map RT.av)]:=by rw[RT.av,RT.kT]
   have hix:=λ(kk:IntKind)=>nI (sz:=7) (nl:=true) (l:=ks.map RT.av) (k:=kk) (j:=(j4.length:Int)) (v:=c.av) (by omega) (by simp[h2]) (by cases c;simp[RT.av,AV.cells])
   have hll:rC (lv true (ks.map RT.av))=some ks.length:=by simp
   have qc:=Ka c;have qA:=IC c;have qV:=λq h=>Mf q c h
   have q7:=EF c;have qk:=om ks;have hE:=QT N n j4 c;have hS:=QU N n j4 c;have hEl:=QV N n j4 c;have hXe:=QS N n j4 c;have n1:=pG hd;have gs:=λB=>fq hd B
   have ss:=λB C=>cO h a B C
   have hl:=λB=>bp h a B
   have hg:hget ([.box 185 false (RT.nd n ks).av]::aQ h a (ndR (pN N n j4))) a=some (ndR (pN N n j4)):=by simp[n1,gs,hl]
   have W:=hW c (afB h2) (pN N n j4) ([.box 185 false (RT.nd n ks).av]::aQ h a (ndR (pN N n j4))) a (by rw[rP];omega) (by rw[rP];omega) hg;rw[rP,hXe]at W;have i1:((N.length:Int)<(N.length:Int)+1+(RT.sizes j4:Int)+(c.size:Int))=True:=eq_true (by omega);have i2:(N.length<N.length+1+RT.sizes j4+c.size)=True:=eq_true (by omega);have i0:0<N.length+1+RT.sizes j4+c.size:=by omega
   have e3:N.length+1+RT.sizes (j4++[c])=N.length+1+RT.sizes j4+c.size:=by rw[kj];simp[RT.sizes];omega
   have r3:(j4.length+1)*8<=room:=by unfold room;omega
   have r4:j4.length+1<=room:=by unfold room;omega
   refine⟨λb' e=>⟨trivial,?_⟩,λ_ e=>by cases e⟩;rw[aj];generalize (mu K).code _=FF;rw[e3];simp only[ndR]at W⊢;rw[<-hS];rw[pQ];cases j4 with
   |nil=>
    rw[show bW (N.length+1) []=[] from rfl]at hE⊢;rw[A4]at hE;simp only[afq];rw[oq];simp only[RT.sizes,af1,afl,Int.add_zero,iO,afu,agE,afw]at hE hix h1 w1 hEl r3 r4 i1 i2 i0 W⊢;have z1:(0<ks.length)=True:=eq_true hp;rw[hav]at W⊢;generalize ks.map RT.av=KV at *
    generalize (pX N n [] c).map Nd.av=E at *
    have hE2:=jP hE;generalize (pN N n []).map Nd.av=E0 at *
    clear hl' hS hg hXe;generalize c.size=Z at *
    generalize c.av=CV at *
    simp[lC,KL,aa,hll,z1,hix,w1,qA,q7,qV,W,hE2,hEl,r3,r4,i1,i2,n1,gs,ss,hl]
   |cons x j4=>
    rw[show bW (N.length+1) (x::j4)=((N.length+1:Nat):Int)::bW (N.length+1+x.size) j4 from rfl]at hE⊢;rw[oq]at hE;simp only[afo];rw[oq,afE,afj,afw];have ul:((bW (N.length+1+x.size) j4).map iV).length=j4.length:=by rw[afv,rO]
    rw[hav]at W⊢;simp only[Io,agm,agk]at hix h1 w1 i1 hE hE⊢;simp only[Io]at r3 r4;generalize (bW (N.length+1+x.size) j4).map iV=U at *
    generalize ks.map RT.av=KV at *
    generalize (pX N n (x::j4) c).map Nd.av=E at *
    have hE2:=jP hE;generalize (pN N n (x::j4)).map Nd.av=E0 at *
    clear hl' hS hg hXe;generalize RT.sizes (x::j4)=Y at *
    generalize c.size=Z at *
    generalize c.av=CV at *
    simp[lC,KL,aa,hll,h1,hix,w1,qA,q7,qV,W,hE2,hEl,r3,r4,i1,i2,ul,n1,gs,ss,hl])
  (λb hb=>by
   have hav:(RT.nd n ks).av=.agg [iV n.k,iV n.num,.str n.nm,.str n.attr,.ay,iV 0,lv true (ks.map RT.av)]:=by rw[RT.av,RT.kT]
   have hll:rC (lv true (ks.map RT.av))=some ks.length:=by simp
   have qk:=om ks;have n1:=pG hd;have gs:=λB=>fq hd B
   have ss:=λB C=>cO h a B C
   have hl:=λB=>bp h a B
   rw[aj];generalize (mu K).code _=FF;rw[hav];generalize ks.map RT.av=KV at *
   simp[lC,hll,hl]) () trivial
 have e:iter (λ(_:Unit) (x:RT)=>(.inl ():Unit ⊕ Unit)) () ks=.inl ():=by
  generalize ks=l
  induction l with
  |nil=>rfl
  |cons x l ih=>simpa[iter]using ih
 rw[e]at key;simpa[RT.sizes]using key.2
theorem ab8(n:Nd)(N:List Nd)(ks:List RT)(hW:∀c∈ks,CP c)(hN:N.length+1+RT.sizes ks<=100000)(h:Heap) :
  ∃j3,(mu K).code (.af 2 [0,3,5,6] lC) ⟨[(0,.own (h.length,1) (N.length+1)),(3,.ptr (h.length,0) 0),(5,iV (N.length:Int)),(6,iV 0)],[.box 185 false (RT.nd n ks).av,ndR (pN N n [])]::h⟩ =
   some (.exit 0,⟨j3,[.box 185 false (RT.nd n ks).av,ndR (pN N n ks)]::h⟩)∧get j3 0=.own (h.length,1) (N.length+1+RT.sizes ks):=by
 have hks:=ku ks;have key:=aB (K:=K) (n:=2) (live:=[0,3,5,6]) (a:=lC) (ρ:=Unit) (λ(_:Unit) (x:RT)=>(.inl ():Unit ⊕ Unit))
  (λj4 _=>⟨[(0,.own (h.length,1) (N.length+1+RT.sizes j4)),(3,.ptr (h.length,0) 0),(5,iV (N.length:Int)),(6,iV (j4.length:Int))],[.box 185 false (RT.nd n ks).av,ndR (pN N n j4)]::h⟩)
  (λ_ _=>True)
  (λ_ o=>∃j3,o=some (.exit 0,⟨j3,[.box 185 false (RT.nd n ks).av,ndR (pN N n ks)]::h⟩)∧get j3 0=.own (h.length,1) (N.length+1+RT.sizes ks))
  (λ_ _=>False) ks
  (λj4 c r b hl' hb=>by
   obtain⟨h1,h2,w1⟩:=aA hl' (by omega);have hp:j4.length<ks.length:=(aft.1 h2).1;have hsz:RT.sizes ks=RT.sizes j4+(c.size+RT.sizes r):=by rw[hl',kj];rfl
   have hpl:=ku j4;have hc1:=J9 c;have hav:(RT.nd n ks).av=.agg [iV n.k,iV n.num,.str n.nm,.str n.attr,.ay,iV 0,lv true (ks.map RT.av)]:=by rw[RT.av,RT.kT]
   have hix:=λ(kk:IntKind)=>nI (sz:=7) (nl:=true) (l:=ks.map RT.av) (k:=kk) (j:=(j4.length:Int)) (v:=c.av) (by omega) (by simp[h2]) (by cases c;simp[RT.av,AV.cells])
   have hll:rC (lv true (ks.map RT.av))=some ks.length:=by simp
   have qc:=Ka c;have qA:=IC c;have qV:=λq h=>Mf q c h
   have q7:=EF c;have qk:=om ks;have hE:=QT N n j4 c;have hS:=QU N n j4 c;have hEl:=QV N n j4 c;have hXe:=QS N n j4 c;have hg:hget ([.box 185 false (RT.nd n ks).av,ndR (pN N n j4)]::h) (h.length,1)=some (ndR (pN N n j4)):=by simp
   have W:=hW c (afB h2) (pN N n j4) ([.box 185 false (RT.nd n ks).av,ndR (pN N n j4)]::h) (h.length,1) (by rw[rP];omega) (by rw[rP];omega) hg;rw[rP,hXe]at W;have i1:((N.length:Int)<(N.length:Int)+1+(RT.sizes j4:Int)+(c.size:Int))=True:=eq_true (by omega);have i2:(N.length<N.length+1+RT.sizes j4+c.size)=True:=eq_true (by omega);have i0:0<N.length+1+RT.sizes j4+c.size:=by omega
   have e3:N.length+1+RT.sizes (j4++[c])=N.length+1+RT.sizes j4+c.size:=by rw[kj];simp[RT.sizes];omega
   have r3:(j4.length+1)*8<=room:=by unfold room;omega
   have r4:j4.length+1<=room:=by unfold room;omega
   refine⟨λb' e=>⟨trivial,?_⟩,λ_ e=>by cases e⟩;rw[aj];generalize (mu K).code _=FF;rw[e3];simp only[ndR]at W⊢;rw[<-hS];rw[pQ];cases j4 with
   |nil=>
    rw[show bW (N.length+1) []=[] from rfl]at hE⊢;rw[A4]at hE;simp only[afq];rw[oq];simp only[RT.sizes,af1,afl,Int.add_zero,iO,afu,agE,afw]at hE hix h1 w1 hEl r3 r4 i1 i2 i0 W⊢;have z1:(0<ks.length)=True:=eq_true hp;rw[hav]at W⊢;generalize ks.map RT.av=KV at *
    generalize (pX N n [] c).map Nd.av=E at *
    have hE2:=jP hE;generalize (pN N n []).map Nd.av=E0 at *
    clear hl' hS hg hXe;generalize c.size=Z at *
    generalize c.av=CV at *
    simp[lC,KL,aa,hll,z1,hix,w1,qA,q7,qV,W,hE2,hEl,r3,r4,i1,i2]
   |cons x j4=>
    rw[show bW (N.length+1) (x::j4)=((N.length+1:Nat):Int)::bW (N.length+1+x.size) j4 from rfl]at hE⊢;rw[oq]at hE;simp only[afo];rw[oq,afE,afj,afw];have ul:((bW (N.length+1+x.size) j4).map iV).length=j4.length:=by rw[afv,rO]
    rw[hav]at W⊢;simp only[Io,agm,agk]at hix h1 w1 i1 hE hE⊢;simp only[Io]at r3 r4;generalize (bW (N.length+1+x.size) j4).map iV=U at *
    generalize ks.map RT.av=KV at *
    generalize (pX N n (x::j4) c).map Nd.av=E at *
    have hE2:=jP hE;generalize (pN N n (x::j4)).map Nd.av=E0 at *
    clear hl' hS hg hXe;generalize RT.sizes (x::j4)=Y at *
    generalize c.size=Z at *
    generalize c.av=CV at *
    simp[lC,KL,aa,hll,h1,hix,w1,qA,q7,qV,W,hE2,hEl,r3,r4,i1,i2,ul])
  (λb hb=>by
   have hav:(RT.nd n ks).av=.agg [iV n.k,iV n.num,.str n.nm,.str n.attr,.ay,iV 0,lv true (ks.map RT.av)]:=by rw[RT.av,RT.kT]
   have hll:rC (lv true (ks.map RT.av))=some ks.length:=by simp
   have qk:=om ks;rw[aj];generalize (mu K).code _=FF;rw[hav];generalize ks.map RT.av=KV at *
   simp[lC,hll]) () trivial
 have e:iter (λ(_:Unit) (x:RT)=>(.inl ():Unit ⊕ Unit)) () ks=.inl ():=by
  generalize ks=l
  induction l with
  |nil=>rfl
  |cons x l ih=>simpa[iter]using ih
 rw[e]at key;simpa[RT.sizes]using key.2
theorem aeB(n:Nd)(ks:List RT)(hW:∀c∈ks,CP c):CP (.nd n ks):=λN h a hN1 hN ha=>by
 have hd:=gL ha;have hsz:(RT.nd n ks).size=RT.sizes ks+1:=rfl;rw[hsz]at hN⊢;obtain⟨j3,kl,g0⟩:=ab7 n N ks hW (by omega) h a hd;have n1:=pG hd;have ll:=eD hd;have e0:(pN N n []).map Nd.av=N.map Nd.av++[.agg [iV n.k,iV n.num,.str n.nm,.str n.attr,.ay,iV 0]]:=by
  rw[<-A4];simp[pN,gP,bW]
 have r1:(N.length+1)*80<=room:=by unfold room;omega
 have r2:N.length+1<=room:=by unfold room;omega
 have p1:(0<N.length)=True:=eq_true (by omega);have hNl:(N.map Nd.av).length=N.length:=by simp
 have hav:(RT.nd n ks).av=.agg [iV n.k,iV n.num,.str n.nm,.str n.attr,.ay,iV 0,lv true (ks.map RT.av)]:=by rw[RT.av,RT.kT]
 have qk:=om ks;have hpf:N++mh N.length (.nd n ks)=pN N n ks:=by simp[pN,mh]
 have e4:N.length+(RT.sizes ks+1)=N.length+1+RT.sizes ks:=by omega
 rw[hpf,e4];simp only[ndR]at kl ha⊢;rw[e0]at kl;rw[hav]at kl⊢;rw[aC (KX _ _ _) Y6 IE (by simp[c92])];generalize N.map Nd.av=M at *
 generalize (pN N n ks).map Nd.av=M2 at *
 generalize ks.map RT.av=KV at *
 simp[KY,KZ,K0,K1,K3,K6,c92,ha,n1,r1,r2,p1,hNl,kl,g0,ll]
theorem aeC(n:Nd)(ks:List RT)(hW:∀c∈ks,CP c)(hs:RT.sizes ks<=90000)(h:Heap) :
  (mu K).fn 92 [.ay,(RT.nd n ks).av] h=some (.val (.lst ((mh 0 (.nd n ks)).map Nd.av)) h):=by
 obtain⟨j3,kl,g0⟩:=ab8 n [] ks hW (by simp;omega) h;have e0:(pN [] n []).map Nd.av=[.agg [iV n.k,iV n.num,.str n.nm,.str n.attr,.ay,iV 0]]:=by
  rw[<-A4];simp[pN,gP,bW]
 have r1:80<=room:=by unfold room;omega
 have r2:1<=room:=by unfold room;omega
 have hav:(RT.nd n ks).av=.agg [iV n.k,iV n.num,.str n.nm,.str n.attr,.ay,iV 0,lv true (ks.map RT.av)]:=by rw[RT.av,RT.kT]
 have qk:=om ks;have hpf:mh 0 (.nd n ks)=pN [] n ks:=by simp[pN,mh]
 have ml:((pN [] n ks).map Nd.av).length=1+RT.sizes ks:=by rw[afv,rP];simp
 rw[hpf];simp only[ndR]at kl⊢;rw[e0]at kl;simp only[iO,afu,afl]at kl g0;rw[hav]at kl⊢;rw[aC (KX _ _ _) Y6 IE (by simp[c92])];generalize (pN [] n ks).map Nd.av=M2 at *
 generalize ks.map RT.av=KV at *
 simp[KY,KZ,K0,K1,K3,K6,c92,r1,r2,kl,g0,ml]
mutual
theorem Xy:∀t:RT,CP t
 |.nd n ks=>aeB n ks (Gd ks)
theorem Gd:∀ts:List RT,∀c∈ts,CP c
 | [],c,hc=>by cases hc
 |x::ts,c,hc=>by
  rcases afp.1 hc with e|hc
  ·rw[e];exact Xy x
  ·exact Gd ts c hc
end
theorem T9(c:Cd)(hc:WOk c)(hs:c.size<=90000)(h:Heap):(mu K).fn 92 [.ay,bB c] h=some (.val (.lst ((flat 0 c).map Nd.av)) h):=by
 rw[<-Ve c hc,<-Me];have hs:=A3 c▸hs;cases ht:CM c with
 |nd n ks=>
  rw[ht]at hs;simp only[RT.size]at hs;exact aeC n ks (Gd ks) (by omega) h
end Go.Ab.Pn
namespace Go.Ab.Pn
open Go.Ab.Pol
def aN(p:Po)(l:List Sc)(t:Tr):Cd:=norm (au p.uses.l l) false t
def aR(p:Po)(l:List Sc)(t:Tr):Po:=jF p (aN p l t)
def eO(p:Po)(l:List Sc)(t:Tr):Po×Int:=
 if (iy p l t).2≠0 then (zPo,(iy p l t).2) else if chk (aR p l t)≠0 then (zPo,chk (aR p l t)) else (aR p l t,0)
theorem norm_le{p:Po}{t:Tr}(g:Pol.Good p t)(l:List Sc):(aN p l t).size<=9*p.nodes.l.length:=by
 have h1:=zb (au p.uses.l l) t false;have h2:t.subs.length=t.pre.length:=by rw[gw];simp
 rw[h2,g.all]at h1;exact h1
theorem Ua(n:Int):okN (bq n):=by simp[bq,okN,okS]
theorem QW{p:Po}(z:Sz p){t:Tr}(ht:Pol.IsT p.nodes.l t)(fd:Nd->Pol.Fd)(neg:Bool):VsP okN (norm fd neg t):=
 F3 Ua t neg λs hs=>(z.nodes.2 s.n (afB (qY (jW ht s hs)).1)).1
theorem Xz{p:Po}(z:Sz p){c:Cd}(hc:VsP okN c)(hs:c.size<=1000):Sz (jF p c):=by
 refine⟨z.name,z.scope,z.bt,z.uses,z.az,?_,?_⟩
 ·show (flat 0 c).length<=1000;rw[lY];exact hs
 ·intro n hn;rcases LV c 0 hc n hn with⟨v,hv,rfl⟩|⟨q1,q2,q3,_⟩
  ·exact⟨hv,by simp[aM]⟩
  ·exact⟨⟨by rw[q1];simp[okS],by rw[q2];simp[okS]⟩,by omega⟩
theorem qU{p:Po}{l:List Sc}{t:Tr}(ht:chk p=0->Pol.Good p t)(h:(eO p l t).2=0) :
  Pol.Good p t∧WD p l t∧(iy p l t).2=0∧chk (aR p l t)=0∧(eO p l t).1=aR p l t:=by
 unfold eO at h⊢;by_cases h1:(iy p l t).2=0
 case neg=>rw[if_pos h1]at h;exact absurd h h1
 rw[if_neg (by simp[h1])]at h⊢;by_cases h2:chk (aR p l t)=0
 case neg=>rw[if_pos h2]at h;exact absurd h h2
 rw[if_neg (by simp[h2])];obtain⟨hF,_⟩:=Ce h1;exact⟨ht (gU hF.ready).chk,hF,h1,h2,rfl⟩
theorem J1{p:Po}{l:List Sc}{t:Tr}(ht:chk p=0->Pol.Good p t)(h:(eO p l t).2=0) :
  Pol.Good (aR p l t) (cu 0 (aN p l t))∧iy (aR p l t) l (cu 0 (aN p l t))=(0,0)∧eO (aR p l t) l (cu 0 (aN p l t))=(aR p l t,0):=by
 obtain⟨g,hF,h1,h2,_⟩:=qU ht h;have hn:NFp p.uses.l l (FX p t) (aN p l t):=rJ g h1 (FY g.isT) false;have g2:=lZ h2;have ty:=F8 h1 h2 hn;have e:aR (aR p l t) l (cu 0 (aN p l t))=aR p l t:=by
  have e1:aN (aR p l t) l (cu 0 (aN p l t))=cE (aN p l t):=Ik hn;show jF (aR p l t) (aN (aR p l t) l (cu 0 (aN p l t)))=_;rw[e1];exact TK
 refine⟨g2,ty,?_⟩;unfold eO;rw[e];have t1:(iy (aR p l t) l (cu 0 (aN p l t))).2=0:=by
  have:iy (aR p l t) l (cu 0 (aN p l t))=(0,0):=ty;rw[this]
 rw[if_neg (by simp[t1]),if_neg (by simp[h2])]
theorem Mg(x y:Rf):dZ [.str,.str] x.cs y.cs=some (decide (x=y)):=by
 obtain⟨a,b⟩:=x;obtain⟨c,d⟩:=y;simp only[dZ,eqF]
 congr 1
 rw[agt];simp
mutual
theorem QX{us:List Us}{l:List Sc}{Q:Nd->Prop}:∀c:Cd,NF us l Q c->WOk c
 |.atom k num vs,h=>by
  rcases h.2 with⟨_,a,b,rfl,_⟩|⟨_,_,x,lo,hi,rfl,_⟩<;>simp[WOk]
 |.gate j5 ks,h=>⟨λe=>by
   have:=h.1;rw[e]at this;simp at this,Mh ks h.2.2.2⟩
theorem Mh{us:List Us}{l:List Sc}{Q:Nd->Prop}{j5:Int}{n:Nat}:∀cs:List Cd,NFs us l Q j5 n cs->QK cs
 | [],_=>trivial
 |c::cs,h=>⟨QX c h.1,Mh cs h.2.2⟩
end
theorem Mi{us:List Us}{l:List Sc}{Q:Nd->Prop}{c:Cd}(h:NFp us l Q c):WOk c:=by
 rcases h with⟨b,rfl⟩|h
 ·simp[cB,WOk]
 ·exact QX c h
mutual
theorem QY:∀{t:Tr} {c:Bool},WF t c->∀s∈t.subs,∃c',WF s c'
 |.nd i n ks,c,h,s,hs=>by
  simp only[Tr.subs,afp]at hs;rcases hs with rfl|hs
  ·exact⟨c,h⟩
  ·exact Mj h.2 s hs
theorem Mj:∀{ts:List Tr} {c:Bool},WFs ts c->∀s∈Tr.bL ts,∃c',WF s c'
 | [],c,h,s,hs=>by simp[Tr.bL]at hs
 |t::ts,c,h,s,hs=>by
  simp only[Tr.bL,afR]at hs;rcases hs with hs|hs
  ·exact QY h.1 s hs
  ·exact Mj h.2 s hs
end
theorem Ml{p:Po}{t:Tr}(g:Pol.Good p t):∀n∈p.nodes.l,wj n:=λn hn hk=>by
 obtain⟨i,hi,e⟩:=agB hn;obtain⟨s,hs,es⟩:=PW g hi;obtain⟨c,w⟩:=QY g.wf s hs;have h1:=(qY (jW g.isT s hs)).1;rw[es,afD hi,e]at h1;injection h1 with h1
 subst h1;cases s with
 |nd j m ks=>
  obtain⟨_,_,_,_,_,lo,hi2⟩:=fH w.1;simp only[Tr.n]at hk⊢;simp only[eP,cH,hk]at lo hi2;simp at lo hi2;omega
theorem wO{p:Po}(z:Sz p){t:Tr}(g:Pol.Good p t){l:List Sc}(hs:(aN p l t).size<=1000):Sz (aR p l t):=Xz z (QW z g.isT _ _) hs
theorem size_le{p:Po}{l:List Sc}{t:Tr}(ht:chk p=0->Pol.Good p t)(hn:p.nodes.l.length<=100):(iy p l t).2=0->(aN p l t).size<=1000:=λh0=>by
 have g:=ht (gU (Ce h0).1.ready).chk;have:=norm_le g l;omega
theorem f15(p:Po)(z:Sz p)(l:Sl Sc)(zl:okL l)(t:Tr)(ht:chk p=0->Pol.Good p t)(hn:(iy p l.l t).2=0->(aN p l.l t).size<=1000)(h:Heap) :
  (mu K).fn 15 [p.av,l.avS Sc.av] h=some (.val (.tup [(eO p l.l t).1.av,.int .i64 (eO p l.l t).2]) h):=by
 have k38:=λh=>f47 p z l zl t ht h
 have q1:=ak _ dI p.uses;have q2:=ak _ dz p.az;have q3:=ak _ bX p.nodes;have q4:=ak _ eo l;have ez:zPo.av=.agg [.str [],.ay,.ay,.ay,iV 0,.str [],iV 0,.str []]:=rfl;by_cases h0:(iy p l.l t).2=0
 case neg=>
  have e:eO p l.l t=(zPo,(iy p l.l t).2):=by unfold eO;rw[if_pos h0]
  rw[e];simp only[ez];rw[aC (KX _ _ _) Vx rfl (by simp[c15])];simp[c15,KL,aa,k38,h0]
 obtain⟨hF,_⟩:=Ce h0;have hr:=gU hF.ready;have g:=ht hr.chk;have nok:NOk p l.l t:=⟨g.isT,Mm t g.isT g.wf (lg h0).2.2,g.wf,by
  have h2:t.subs.length=t.pre.length:=by rw[gw];simp
  rw[h2,g.all];have:=g.sizes.1;omega⟩
 have qF:=λh=>f50 p z l zl hF.ready (Ml g) t false nok h
 rw[g.root]at qF;have hnf:NFp p.uses.l l.l (λ_=>True) (aN p l.l t):=rJ g h0 (λ_ _ _=>trivial) false;have hle:=hn h0;have kw:=λh=>Xx (aN p l.l t) (Mi hnf) (by omega) h
 have zq:=wO z g (hn (by first|exact h0|exact h1));have k24:=λh=>f51 (aR p l.l t) zq h
 have k80:=λh=>f48 p.uses z.uses.1 h
 have k81:=λh=>f49 p.az z.az.1 h
 have eq:(aR p l.l t).av=.agg [.str p.name,p.uses.avS Us.av,p.az.avS Rf.av,.lst ((flat 0 (aN p l.l t)).map Nd.av),iV 0,.str p.scope,iV p.limit,.str p.bt]:=by
  simp[aR,jF,Sl.avS]
 have lk:List.lookup (254:TypeId) [((252:TypeId),(277:FuncId)),(254,278)]=some 278:=rfl;have e3:eO p l.l t=if chk (aR p l.l t)≠0 then (zPo,chk (aR p l.l t)) else (aR p l.l t,0):=by unfold eO;rw[if_neg (by simp[h0])]
 rw[e3];rw[eq]at k24;have hC:norm (au p.uses.l l.l) false t=aN p l.l t:=rfl;rw[hC]at qF;simp only[bK,Po.cs,afo,afq]at qF;by_cases hc:chk (aR p l.l t)=0
 ·rw[if_neg (by simp[hc])];rw[hc]at k24;simp only[eq];generalize (flat 0 (aN p l.l t)).map Nd.av=M at *
  rw[aC (KX _ _ _) Vx rfl (by simp[c15])];generalize aN p l.l t=C at *
  cases C with
  |atom ck cn vs=>
   simp only[wrF,wrV]at kw;rw[aX]at qF;simp[c15,KL,aa,k38,h0,q1,q2,k80,k81,qF,kw,k24]
  |gate cn cks=>
   simp only[wrF,wrV]at kw;rw[aX,fV]at qF;simp[c15,KL,aa,k38,h0,q1,q2,k80,k81,qF,kw,k24,lk]
 ·rw[if_pos hc];simp only[ez];generalize (flat 0 (aN p l.l t)).map Nd.av=M at *
  rw[aC (KX _ _ _) Vx rfl (by simp[c15])];generalize chk (aR p l.l t)=e at *
  generalize aN p l.l t=C at *
  cases C with
  |atom ck cn vs=>
   simp only[wrF,wrV]at kw;rw[aX]at qF;simp[c15,KL,aa,k38,h0,q1,q2,k80,k81,qF,kw,k24,hc]
  |gate cn cks=>
   simp only[wrF,wrV]at kw;rw[aX,fV]at qF;simp[c15,KL,aa,k38,h0,q1,q2,k80,k81,qF,kw,k24,lk,hc]
end Go.Ab.Pn
namespace Go.Ab.Pn
open Go.Ab.Pol
theorem f40(p:Po)(z:Sz p)(l:Sl Sc)(zl:okL l)(t:Tr)(ht:chk p=0->Pol.Good p t)(hn:(iy p l.l t).2=0->(aN p l.l t).size<=1000)(h:Heap) :
  (mu K).fn 40 [p.av,l.avS Sc.av] h=some (.val (.tup [(eO p l.l t).1.av,.int .i64 (eO p l.l t).2]) h):=by
 have k38:=λh=>f91 p z l zl t ht h
 have q1:=ak _ dI p.uses;have q2:=ak _ dz p.az;have q3:=ak _ bX p.nodes;have q4:=ak _ eo l;have ez:zPo.av=.agg [.str [],.ay,.ay,.ay,iV 0,.str [],iV 0,.str []]:=rfl;by_cases h0:(iy p l.l t).2=0
 case neg=>
  have e:eO p l.l t=(zPo,(iy p l.l t).2):=by unfold eO;rw[if_pos h0]
  rw[e];simp only[ez];rw[aC (KX _ _ _) Vz rfl (by simp[c40])];simp[c40,KL,aa,k38,h0]
 obtain⟨hF,_⟩:=Ce h0;have hr:=gU hF.ready;have g:=ht hr.chk;have nok:NOk p l.l t:=⟨g.isT,Mm t g.isT g.wf (lg h0).2.2,g.wf,by
  have h2:t.subs.length=t.pre.length:=by rw[gw];simp
  rw[h2,g.all];have:=g.sizes.1;omega⟩
 have k52:=f93 p z l zl hF.ready (Ml g) (h.length,2) t false nok ([.box 26 false p.av,.box 26 false zPo.av,.box 181 false (bK p l),.box 26 false p.av]::h) (by simp) (by simp);rw[g.root]at k52;have hnf:NFp p.uses.l l.l (λ_=>True) (aN p l.l t):=rJ g h0 (λ_ _ _=>trivial) false;have hle:=hn h0;have kw:=λh=>T9 (aN p l.l t) (Mi hnf) (by omega) h
 have zq:=wO z g (hn h0);have k24:=λh=>f94 (aR p l.l t) zq h
 have eq:(aR p l.l t).av=.agg [.str p.name,p.uses.avS Us.av,p.az.avS Rf.av,.lst ((flat 0 (aN p l.l t)).map Nd.av),iV 0,.str p.scope,iV p.limit,.str p.bt]:=by
  simp[aR,jF,Sl.avS]
 have e3:eO p l.l t=if chk (aR p l.l t)≠0 then (zPo,chk (aR p l.l t)) else (aR p l.l t,0):=by unfold eO;rw[if_neg (by simp[h0])]
 rw[e3];rw[eq]at k24;have hC:norm (au p.uses.l l.l) false t=aN p l.l t:=rfl;rw[hC]at k52;have qc:=fX (aN p l.l t);simp only[ez,bK,Po.cs,afo,afq]at k52;by_cases hc:chk (aR p l.l t)=0
 ·rw[if_neg (by simp[hc])];rw[hc]at k24;simp only[eq];generalize (flat 0 (aN p l.l t)).map Nd.av=M at *
  rw[aC (KX _ _ _) Vz rfl (by simp[c40])];generalize aN p l.l t=C at *
  simp[c40,KL,aa,k38,h0,k52,kw,k24]
 ·rw[if_pos hc];simp only[ez];generalize (flat 0 (aN p l.l t)).map Nd.av=M at *
  rw[aC (KX _ _ _) Vz rfl (by simp[c40])];generalize chk (aR p l.l t)=e at *
  generalize aN p l.l t=C at *
  simp[c40,KL,aa,k38,h0,k52,kw,k24,hc]
abbrev exU:Sl Us:=⟨false,[⟨[105,100],[80,97,115,115,112,111,114,116]⟩]⟩
def N5(k:Int):Po:=⟨[112],exU,⟨true,[]⟩,⟨false,[⟨k,0,[],[],⟨false,[1,4]⟩,0⟩,⟨6,5,[],[],⟨false,[2,3]⟩,0⟩,⟨9,0,[105,100],[97,103,101],⟨true,[]⟩,0⟩,⟨10,18,[],[],⟨true,[]⟩,0⟩,
 ⟨6,0,[],[],⟨false,[5,6]⟩,0⟩,⟨9,0,[105,100],[108,97,110,100],⟨true,[]⟩,0⟩,⟨11,0,[102,114],[],⟨true,[]⟩,0⟩]⟩,0,[],0,[]⟩
def Ub:Sl Sc:=⟨false,[⟨[80,97,115,115,112,111,114,116],⟨false,[⟨[97,103,101],0,0,120,⟨true,[]⟩⟩,⟨[108,97,110,100],1,0,0,⟨false,[[100,101],[102,114]]⟩⟩]⟩⟩,⟨[67,97,114,100],⟨false,[⟨[108,101,118,101,108],0,10,12,⟨true,[]⟩⟩]⟩⟩]⟩
abbrev aeD:Nd:=⟨9,0,[105,100],[97,103,101],⟨true,[]⟩,0⟩
abbrev ab9:Nd:=⟨9,0,[105,100],[108,97,110,100],⟨true,[]⟩,0⟩
def NV(j5:Int):Cd:=.gate j5 [.atom 7 0 [aeD,bq 18,bq 120],.atom 6 0 [ab9,⟨11,0,[102,114],[],⟨true,[]⟩,0⟩]]
def mH(j5:Int):Po:=jF (N5 3) (NV j5)
def CE:List Rf:=[⟨[105,100],[97,103,101]⟩,⟨[105,100],[108,97,110,100]⟩]
theorem acd(e g f:List Blk):(evF K 100).fn 15 [(N5 3).av,Ub.avS Sc.av] [e,g,f]=some (.val (.tup [(mH 2).av,iV 0]) [e,g,f]):=by kernel_rfl
theorem ace(e g f:List Blk):(evF K 100).fn 15 [(N5 4).av,Ub.avS Sc.av] [e,g,f]=some (.val (.tup [(mH 1).av,iV 0]) [e,g,f]):=by kernel_rfl
