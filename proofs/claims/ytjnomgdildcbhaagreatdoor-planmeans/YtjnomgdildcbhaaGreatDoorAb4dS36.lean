/-
  The nodes of a normal form, as the program writes them: thresholds.
-/
import Derived.Test.YtjnomgdildcbhaaGreatDoorAb4dP101
import Derived.Test.YtjnomgdildcbhaaGreatDoorAbNf5
import Derived.Test.YtjnomgdildcbhaaGreatDoorAb4dR6
import Derived.Test.YtjnomgdildcbhaaGreatDoorAb4dP92
import Derived.Test.YtjnomgdildcbhaaGreatDoorAb4dT1
set_option linter.unusedVariables false
set_option linter.unusedSimpArgs false
set_option linter.unusedSectionVars false
namespace Go.Ab.Pn
open Go.Ab.Pol
set_option maxRecDepth 100000
set_option maxHeartbeats 4000000
mutual
def WOk:Cd->Prop
 |.atom _ _ vs=>vs.length<=1000
 |.gate _ ks=>ks≠[]∧RX ks
def RX:List Cd->Prop
 | []=>True
 |c :: cs=>WOk c∧RX cs
end
def wrF:Cd->FuncId
 |.atom _ _ _=>277
 |.gate _ _=>278
abbrev rH(need:Int)(ks:List Cd):AV:=.agg [iV need,.lst (ks.map aO)]
def wrV:Cd->AV
 |.atom k num vs=>Aw k num vs
 |.gate need ks=>rH need ks
def Ik(c:Cd):Prop:=∀ (N:List Nd) (h:Heap) (a:Loc),1<=N.length->N.length+c.size<=100000->hget h a=some (ndQ N) ->
 (mu K).fn (wrF c) [wrV c,.own a N.length] h=some (.val (.own a (N.length+c.size)) (aR h a (ndQ (N++flat N.length c))))
def kdB:List Int->Blk
 | []=>.arr 0 0 false []
 |x :: l=>.arr 3 1 false ((x :: l).map iV)
theorem Gb(l:List Int):∃ t z,kdB l=.arr t z false (l.map iV)∧(z=0∨t=3∧z=1):=by
 cases l with
 |nil=>exact⟨0,0,rfl,.inl rfl⟩
 |cons x l=>exact⟨3,1,rfl,.inr ⟨rfl,rfl⟩⟩
theorem JW(l:List Int)(x:Int):kdB (l++[x])=.arr 3 1 false ((l++[x]).map iV):=by cases l<;>rfl
def gtN(N:List Nd)(need:Int)(pre:List Cd):List Nd:=N++bC N.length 5 need 0 :: fJ (N.length+1) pre
theorem iI(N:List Nd)(need:Int)(pre:List Cd):(gtN N need pre).length=N.length+1+Cd.sizes pre:=by simp[gtN,wB];omega
theorem Bc:∀ (pre:List Cd) (b:Nat) (c:Cd),fJ b (pre++[c])=fJ b pre++flat (b+Cd.sizes pre) c
 | [],b,c=>by simp[fJ,Cd.sizes]
 |x :: pre,b,c=>by
  simp only[ad4,fJ,Cd.sizes,Bc pre,aeH];rw[aeP]
theorem Gc(N:List Nd)(need:Int)(pre:List Cd)(c:Cd):gtN N need (pre++[c])=gtN N need pre++flat (gtN N need pre).length c:=by
 rw[iI];unfold gtN;rw[Bc];simp
theorem fN:∀ (pre:List Cd) (b:Nat) (c:Cd),starts b (pre++[c])=starts b pre++[((b+Cd.sizes pre:Nat):Int)]
 | [],b,c=>by simp[starts,Cd.sizes]
 |x :: pre,b,c=>by
  simp only[ad4,starts,Cd.sizes,fN pre,aen,true_and];rw[aeP]
theorem xE(c:Cd)(l:List Cd):Cd.sizes (l++[c])=Cd.sizes l+c.size:=by rw[gT];simp[Cd.sizes]
theorem Vg(need:Int)(N:List Nd)(ks:List Cd)(hW:∀ c∈ks,Ik c)(hN:N.length+1+Cd.sizes ks<=100000)(h:Heap)(a:Loc)(hd:dom h a) :
  ∃ env,(mu K).code (.af 2 [1,5,6,18,19,20] gI) ⟨[(1,.own a (N.length+1)),(5,iV (N.length:Int)),(6,.own (h.length,1) 0),(18,.lst (ks.map aO)),(19,iV (ks.length:Int)),(20,iV 0)],[.box 254 false (rH need ks),.arr 0 0 false []] :: aR h a (ndQ (gtN N need []))⟩ =
   some (.exit 0,⟨env,[.box 254 false (rH need ks),kdB (starts (N.length+1) ks)] :: aR h a (ndQ (gtN N need ks))⟩)∧get env 1=.own a (N.length+1+Cd.sizes ks)∧get env 5=iV (N.length:Int)∧get env 6=.own (h.length,1) ks.length:=by
 have hks:=dz ks;have key:=aD (K:=K) (n:=2) (live:=[1,5,6,18,19,20]) (a:=gI) (ρ:=Unit) (λ(_:Unit) (x:Cd)=>(.inl ():Unit ⊕ Unit))
  (λpre _=>⟨[(1,.own a (N.length+1+Cd.sizes pre)),(5,iV (N.length:Int)),(6,.own (h.length,1) pre.length),(18,.lst (ks.map aO)),(19,iV (ks.length:Int)),(20,iV (pre.length:Int))],[.box 254 false (rH need ks),kdB (starts (N.length+1) pre)] :: aR h a (ndQ (gtN N need pre))⟩)
  (λ_ _=>True)
  (λ_ o=>∃ env,o=some (.exit 0,⟨env,[.box 254 false (rH need ks),kdB (starts (N.length+1) ks)] :: aR h a (ndQ (gtN N need ks))⟩)∧get env 1=.own a (N.length+1+Cd.sizes ks)∧get env 5=iV (N.length:Int)∧get env 6=.own (h.length,1) ks.length)
  (λ_ _=>False) ks
  (λpre c r b hl' hb=>by
   obtain⟨h1,h2,w1⟩:=aH hl' (by omega);have hp:pre.length<ks.length:=(adW.1 h2).1;have hsz:Cd.sizes ks=Cd.sizes pre+(c.size+Cd.sizes r):=by rw[hl',gT];rfl
   have hpl:=dz pre;have hix:=λ(kk:IntKind)=>dU (sz:=1) (l:=ks.map aO) (k:=kk) (j:=(pre.length:Int)) (v:=aO c) (by omega) (by simp[h2]) (by simp)
   have r3:(pre.length+1)*8<=room:=by unfold room;omega
   have r4:pre.length+1<=room:=by unfold room;omega
   obtain⟨t0,z0,hkB,hz⟩:=Gb (starts (N.length+1) pre);have hz:(z0=0∨t0=3∧z0=1)=True:=by simp[hz]
   have hkl:((starts (N.length+1) pre).map iV).length=pre.length:=by rw[ad6,bU]
   have hst:(starts (N.length+1) (pre++[c])).map iV=(starts (N.length+1) pre).map iV++[iV ((N.length:Int)+1+(Cd.sizes pre:Int))]:=by
    rw[fN,aey,Io,aei]
    congr 3
   have n1:=vK hd;have gs:=λB=>jw hd B
   have ss:=λB C=>fc h a B C
   have hl:=λB=>bt h a B
   have hg:hget ([.box 254 false (rH need ks),.arr 3 1 false ((starts (N.length+1) (pre++[c])).map iV)] :: aR h a (ndQ (gtN N need pre))) a=some (ndQ (gtN N need pre)):=by simp[n1,gs,hl]
   have W:=hW c (aee h2) (gtN N need pre) ([.box 254 false (rH need ks),.arr 3 1 false ((starts (N.length+1) (pre++[c])).map iV)] :: aR h a (ndQ (gtN N need pre))) a (by rw[iI];omega) (by rw[iI];omega) hg;have e3:N.length+1+Cd.sizes (pre++[c])=N.length+1+Cd.sizes pre+c.size:=by rw[xE];omega
   refine⟨λb' e=>⟨trivial,?_⟩,λ_ e=>by cases e⟩;rw[au];generalize (mu K).code (.af 2 [1,5,6,18,19,20] gI)=FF;rw[e3,Gc,fN,JW,<-fN];rw[iI]at W ⊢;rw[hst]at W ⊢;rw[hkB];simp only[ndQ,aey]at W ⊢;have hEl:((gtN N need pre).map Nd.av).length=N.length+1+Cd.sizes pre:=by rw[ad6,iI]
   generalize (starts (N.length+1) pre).map iV=KS at *
   generalize (gtN N need pre).map Nd.av=E at *
   generalize (flat (N.length+1+Cd.sizes pre) c).map Nd.av=E2 at *
   clear hl' hg;cases c with
   |atom ck cn vs=>
    have hd:aO (.atom ck cn vs)=LH ck cn vs:=by rw[aO]
    rw[hd]at hix;simp only[wrF,wrV]at W;generalize (Cd.atom ck cn vs).size=Z at *
    simp[gI,KL,aa,h1,hix,w1,hz,hkl,r3,r4,W,n1,gs,ss,hl]
   |gate cn cks=>
    have hd:aO (.gate cn cks)=.iface 254 (rH cn cks):=by rw[aO,fq]
    rw[hd]at hix;simp only[wrF,wrV]at W;generalize (Cd.gate cn cks).size=Z at *
    have lk:List.lookup (254:TypeId) [((252:TypeId),(277:FuncId)),(254,278)]=some 278:=rfl;simp[gI,KL,aa,h1,hix,w1,hz,hkl,r3,r4,W,lk,n1,gs,ss,hl])
  (λb hb=>by
   have n1:=vK hd;have gs:=λB=>jw hd B
   have ss:=λB C=>fc h a B C
   have hl:=λB=>bt h a B
   rw[au];generalize (mu K).code (.af 2 [1,5,6,18,19,20] gI)=FF;simp[gI,n1,gs,ss,hl]) () trivial
 have e:iter (λ(_:Unit) (x:Cd)=>(.inl ():Unit ⊕ Unit)) () ks=.inl ():=by
  generalize ks=l
  induction l with
  |nil=>rfl
  |cons x l ih=>simpa[iter]using ih
 rw[e]at key;simpa[Cd.sizes,starts,kdB]using key.2
theorem Vh(need:Int)(N:List Nd)(ks:List Cd)(hW:∀ c∈ks,Ik c)(hN:N.length+1+Cd.sizes ks<=100000)(h:Heap) :
  ∃ env,(mu K).code (.af 3 [1,5,6,18,19,20] gI) ⟨[(1,.own (h.length,1) (N.length+1)),(5,iV (N.length:Int)),(6,.own (h.length,2) 0),(18,.lst (ks.map aO)),(19,iV (ks.length:Int)),(20,iV 0)],[.box 254 false (rH need ks),ndQ (gtN N need []),.arr 0 0 false []] :: h⟩ =
   some (.exit 0,⟨env,[.box 254 false (rH need ks),ndQ (gtN N need ks),kdB (starts (N.length+1) ks)] :: h⟩)∧get env 1=.own (h.length,1) (N.length+1+Cd.sizes ks)∧get env 5=iV (N.length:Int)∧get env 6=.own (h.length,2) ks.length:=by
 have hks:=dz ks;have key:=aD (K:=K) (n:=3) (live:=[1,5,6,18,19,20]) (a:=gI) (ρ:=Unit) (λ(_:Unit) (x:Cd)=>(.inl ():Unit ⊕ Unit))
  (λpre _=>⟨[(1,.own (h.length,1) (N.length+1+Cd.sizes pre)),(5,iV (N.length:Int)),(6,.own (h.length,2) pre.length),(18,.lst (ks.map aO)),(19,iV (ks.length:Int)),(20,iV (pre.length:Int))],[.box 254 false (rH need ks),ndQ (gtN N need pre),kdB (starts (N.length+1) pre)] :: h⟩)
  (λ_ _=>True)
  (λ_ o=>∃ env,o=some (.exit 0,⟨env,[.box 254 false (rH need ks),ndQ (gtN N need ks),kdB (starts (N.length+1) ks)] :: h⟩)∧get env 1=.own (h.length,1) (N.length+1+Cd.sizes ks)∧get env 5=iV (N.length:Int)∧get env 6=.own (h.length,2) ks.length)
  (λ_ _=>False) ks
  (λpre c r b hl' hb=>by
   obtain⟨h1,h2,w1⟩:=aH hl' (by omega);have hp:pre.length<ks.length:=(adW.1 h2).1;have hsz:Cd.sizes ks=Cd.sizes pre+(c.size+Cd.sizes r):=by rw[hl',gT];rfl
   have hpl:=dz pre;have hix:=λ(kk:IntKind)=>dU (sz:=1) (l:=ks.map aO) (k:=kk) (j:=(pre.length:Int)) (v:=aO c) (by omega) (by simp[h2]) (by simp)
   have r3:(pre.length+1)*8<=room:=by unfold room;omega
   have r4:pre.length+1<=room:=by unfold room;omega
   obtain⟨t0,z0,hkB,hz⟩:=Gb (starts (N.length+1) pre);have hz:(z0=0∨t0=3∧z0=1)=True:=by simp[hz]
   have hkl:((starts (N.length+1) pre).map iV).length=pre.length:=by rw[ad6,bU]
   have hst:(starts (N.length+1) (pre++[c])).map iV=(starts (N.length+1) pre).map iV++[iV ((N.length:Int)+1+(Cd.sizes pre:Int))]:=by
    rw[fN,aey,Io,aei]
    congr 3
   have hg:hget ([.box 254 false (rH need ks),ndQ (gtN N need pre),.arr 3 1 false ((starts (N.length+1) (pre++[c])).map iV)] :: h) (h.length,1)=some (ndQ (gtN N need pre)):=by simp
   have W:=hW c (aee h2) (gtN N need pre) ([.box 254 false (rH need ks),ndQ (gtN N need pre),.arr 3 1 false ((starts (N.length+1) (pre++[c])).map iV)] :: h) (h.length,1) (by rw[iI];omega) (by rw[iI];omega) hg;have e3:N.length+1+Cd.sizes (pre++[c])=N.length+1+Cd.sizes pre+c.size:=by rw[xE];omega
   refine⟨λb' e=>⟨trivial,?_⟩,λ_ e=>by cases e⟩;rw[au];generalize (mu K).code (.af 3 [1,5,6,18,19,20] gI)=FF;rw[e3,Gc,fN,JW,<-fN];rw[iI]at W ⊢;rw[hst]at W ⊢;rw[hkB];simp only[ndQ,aey]at W ⊢;have hEl:((gtN N need pre).map Nd.av).length=N.length+1+Cd.sizes pre:=by rw[ad6,iI]
   generalize (starts (N.length+1) pre).map iV=KS at *
   generalize (gtN N need pre).map Nd.av=E at *
   generalize (flat (N.length+1+Cd.sizes pre) c).map Nd.av=E2 at *
   clear hl' hg;cases c with
   |atom ck cn vs=>
    have hd:aO (.atom ck cn vs)=LH ck cn vs:=by rw[aO]
    rw[hd]at hix;simp only[wrF,wrV]at W;generalize (Cd.atom ck cn vs).size=Z at *
    simp[gI,KL,aa,h1,hix,w1,hz,hkl,r3,r4,W]
   |gate cn cks=>
    have hd:aO (.gate cn cks)=.iface 254 (rH cn cks):=by rw[aO,fq]
    rw[hd]at hix;simp only[wrF,wrV]at W;generalize (Cd.gate cn cks).size=Z at *
    have lk:List.lookup (254:TypeId) [((252:TypeId),(277:FuncId)),(254,278)]=some 278:=rfl;simp[gI,KL,aa,h1,hix,w1,hz,hkl,r3,r4,W,lk])
  (λb hb=>by
   rw[au];generalize (mu K).code (.af 3 [1,5,6,18,19,20] gI)=FF;simp[gI]) () trivial
 have e:iter (λ(_:Unit) (x:Cd)=>(.inl ():Unit ⊕ Unit)) () ks=.inl ():=by
  generalize ks=l
  induction l with
  |nil=>rfl
  |cons x l ih=>simpa[iter]using ih
 rw[e]at key;simpa[Cd.sizes,starts,kdB]using key.2
end Go.Ab.Pn
/-
  The nodes of a normal form, as the program writes them.
-/
namespace Go.Ab.Pn
open Go.Ab.Pol
set_option maxRecDepth 100000
set_option maxHeartbeats 4000000
theorem JX(N:List Nd)(need:Int)(ks:List Cd):((gtN N need ks).map Nd.av)[N.length]?=some (.agg [iV 5,iV need,.str [],.str [],.aj,iV 0]):=by
 unfold gtN;rw[aey,aez (by simp)];simp[jd]
theorem JY(N:List Nd)(need:Int)(ks:List Cd)(h0:ks≠[]):((gtN N need ks).map Nd.av).set N.length (.agg [iV 5,iV need,.str [],.str [],.lst ((starts (N.length+1) ks).map iV),iV 0])=(N++flat N.length (.gate need ks)).map Nd.av:=by
 have hs:starts (N.length+1) ks≠[]:=λe=>h0 (afE.1 (by rw[<-bU ks (N.length+1),e];rfl))
 have hs2:(starts (N.length+1) ks).map iV≠[]:=by simpa using hs
 unfold gtN;rw[aey,afL _ _ (by simp)];simp only[flat,ad6,Nat.sub_self,Io,List.set_cons_zero,aey]
 congr 2
 simp[cV,Sl.avS,jK true hs2]
theorem Oh{l:List Int}(h:l≠[]):kdB l=.arr 3 1 false (l.map iV):=by
 cases l with
 |nil=>exact absurd rfl h
 |cons x l=>rfl
theorem aaK(need:Int)(ks:List Cd)(h0:ks≠[])(hW:∀ c∈ks,Ik c):Ik (.gate need ks):=λN h a hN1 hN ha=>by
 have hd:=gj ha;have hsz:(Cd.gate need ks).size=Cd.sizes ks+1:=rfl;rw[hsz]at hN ⊢;obtain⟨env,kl,g1,g5,g6⟩:=Vg need N ks hW (by omega) h a hd;have n1:=vK hd;have gs:=λB=>jw hd B
 have ss:=λB C=>fc h a B C
 have hl:=λB=>bt h a B
 have ll:=kF hd;have e0:(gtN N need []).map Nd.av=N.map Nd.av++[.agg [iV 5,iV need,.str [],.str [],.aj,iV 0]]:=by
  simp[gtN,fJ,jd]
 have r1:(N.length+1)*80<=room:=by unfold room;omega
 have r2:N.length+1<=room:=by unfold room;omega
 have p1:(0<N.length)=True:=eq_true (by omega);have hNl:(N.map Nd.av).length=N.length:=by simp
 have hE:=JX N need ks;have hS:=JY N need ks h0;have hEl:((gtN N need ks).map Nd.av).length=N.length+1+Cd.sizes ks:=by rw[ad6,iI]
 have hs:starts (N.length+1) ks≠[]:=λe=>h0 (afE.1 (by rw[<-bU ks (N.length+1),e];rfl))
 have hSl:((starts (N.length+1) ks).map iV).length=ks.length:=by rw[ad6,bU]
 have i1:((N.length:Int)<(N.length:Int)+1+(Cd.sizes ks:Int))=True:=eq_true (by omega);have i2:(N.length<N.length+1+Cd.sizes ks)=True:=eq_true (by omega);have k0:(0<ks.length)=True:=eq_true (afu.2 h0);have hE2:=qL hE;rw[Oh hs]at kl;simp only[ndQ,wrF,wrV]at kl ha ⊢;rw[e0]at kl;rw[<-hS];have hkc:(ks.map aO).length=ks.length:=by simp
 have e4:N.length+(Cd.sizes ks+1)=N.length+1+Cd.sizes ks:=by omega
 rw[e4];rw[aB (KX _ _ _) S6 rfl (by simp[MO])];generalize (starts (N.length+1) ks).map iV=S at *
 generalize N.map Nd.av=M at *
 generalize (gtN N need ks).map Nd.av=E at *
 clear hS;simp[MO,KL,aa,ha,n1,r1,r2,p1,hNl,kl,g1,g5,g6,ll,gs,ss,hl,hE,hE2,hEl,hSl,i1,i2,k0,hkc]
theorem aaL(need:Int)(ks:List Cd)(h0:ks≠[])(hW:∀ c∈ks,Ik c)(hs0:Cd.sizes ks<=90000)(h:Heap) :
  (mu K).fn 278 [rH need ks,.aj] h=some (.val (.lst ((flat 0 (.gate need ks)).map Nd.av)) h):=by
 obtain⟨env,kl,g1,g5,g6⟩:=Vh need [] ks hW (by simp;omega) h;have e0:(gtN [] need []).map Nd.av=[.agg [iV 5,iV need,.str [],.str [],.aj,iV 0]]:=by
  simp[gtN,fJ,jd]
 have r1:80<=room:=by unfold room;omega
 have r2:1<=room:=by unfold room;omega
 have hE:=JX [] need ks;have hS:=JY [] need ks h0;have hEl:((gtN [] need ks).map Nd.av).length=1+Cd.sizes ks:=by rw[ad6,iI];simp
 have hs:starts 1 ks≠[]:=λe=>h0 (afE.1 (by rw[<-bU ks 1,e];rfl))
 have hSl:((starts 1 ks).map iV).length=ks.length:=by rw[ad6,bU]
 have i1:((0:Int)<1+(Cd.sizes ks:Int))=True:=eq_true (by omega);have i2:(0<1+Cd.sizes ks)=True:=eq_true (by omega);have k0:(0<ks.length)=True:=eq_true (afu.2 h0);simp only[adZ,ad7,aeb,ad5]at hE hS kl g1 g5 g6;have hE2:=qL hE;have hS2:(((gtN [] need ks).map Nd.av).set 0 (.agg [iV 5,iV need,.str [],.str [],.lst ((starts 1 ks).map iV),iV 0])).length=1+Cd.sizes ks:=by rw[aeB,hEl]
 rw[Oh hs]at kl;simp only[ndQ]at kl ⊢;rw[e0]at kl;rw[<-hS];have hkc:(ks.map aO).length=ks.length:=by simp
 rw[aB (KX _ _ _) S6 rfl (by simp[MO])];generalize (starts 1 ks).map iV=S at *
 generalize (gtN [] need ks).map Nd.av=E at *
 clear hS;simp[MO,KL,aa,r1,r2,kl,g1,g5,g6,hE,hE2,hEl,hSl,i1,i2,k0,hkc,hS2]
mutual
theorem aaM:∀ c:Cd,WOk c->Ik c
 |.atom k num vs,hv=>λN h a h1 h2 ha=>by
  have hsz:(Cd.atom k num vs).size=vs.length+1:=rfl;rw[hsz]at h2 ⊢;have:=aae k num N vs ⟨h1,by omega⟩ hv h a ha;rw[show N.length+(vs.length+1)=N.length+1+vs.length by omega];exact this
 |.gate need ks,hv=>aaK need ks hv.1 (Il ks hv.2)
theorem Il:∀ cs:List Cd,RX cs->∀ c∈cs,Ik c
 | [],_,c,hc=>by cases hc
 |x :: cs,h,c,hc=>by
  rcases adY.1 hc with e |hc
  ·rw[e];exact aaM x h.1
  ·exact Il cs h.2 c hc
end
theorem Vi(c:Cd)(hc:WOk c)(hs:c.size<=90000)(h:Heap):(mu K).fn (wrF c) [wrV c,.aj] h=some (.val (.lst ((flat 0 c).map Nd.av)) h):=by
 cases c with
 |atom k num vs=>exact aaf k num vs hc h
 |gate need ks=>exact aaL need ks hc.1 (Il ks hc.2) (by simp only[Cd.size]at hs;omega) h
end Go.Ab.Pn
/-
  The normal form of a policy: what the program's function answers, in plain words.
-/
namespace Go.Ab.Pn
open Go.Ab.Pol
set_option maxRecDepth 100000
set_option maxHeartbeats 2000000
def aS(p:Po)(l:List Sc)(t:Tr):Cd:=norm (ak p.uses.l l) false t
def bA(p:Po)(l:List Sc)(t:Tr):Po:=ij p (aS p l t)
def iD(p:Po)(l:List Sc)(t:Tr):Po×Int:=
 if (fB p l t).2≠0 then (zPo,(fB p l t).2) else if chk (bA p l t)≠0 then (zPo,chk (bA p l t)) else (bA p l t,0)
theorem norm_le{p:Po}{t:Tr}(g:Pol.Good p t)(l:List Sc):(aS p l t).size<=9*p.nodes.l.length:=by
 have h1:=wC (ak p.uses.l l) t false;have h2:t.subs.length=t.pre.length:=by rw[mA];simp
 rw[h2,g.all]at h1;exact h1
theorem RY(n:Int):okN (bw n):=by simp[bw,okN,okS]
theorem Oi{p:Po}(z:Sz p){t:Tr}(ht:Pol.IsT p.nodes.l t)(fd:Nd->Pol.Fd)(neg:Bool):VsP okN (norm fd neg t):=
 zu RY t neg λs hs=>(z.nodes.2 s.n (aee (Ar (jt ht s hs)).1)).1
theorem Vj{p:Po}(z:Sz p){c:Cd}(hc:VsP okN c)(hs:c.size<=1000):Sz (ij p c):=by
 refine⟨z.name,z.scope,z.cD,z.uses,z.aA,?_,?_⟩
 ·show (flat 0 c).length<=1000;rw[kj];exact hs
 ·intro n hn;rcases JZ c 0 hc n hn with⟨v,hv,rfl⟩ |⟨q1,q2,q3,_⟩
  ·exact⟨hv,by simp[aP]⟩
  ·exact⟨⟨by rw[q1];simp[okS],by rw[q2];simp[okS]⟩,by omega⟩
theorem A3{p:Po}{l:List Sc}{t:Tr}(ht:chk p=0->Pol.Good p t)(h:(iD p l t).2=0) :
  Pol.Good p t∧Fy p l t∧(fB p l t).2=0∧chk (bA p l t)=0∧(iD p l t).1=bA p l t:=by
 unfold iD at h ⊢;by_cases h1:(fB p l t).2=0
 case neg=>rw[if_pos h1]at h;exact absurd h h1
 rw[if_neg (by simp[h1])]at h ⊢;by_cases h2:chk (bA p l t)=0
 case neg=>rw[if_pos h2]at h;exact absurd h h2
 rw[if_neg (by simp[h2])];obtain⟨hF,_⟩:=pE h1;exact⟨ht (kI hF.ready).chk,hF,h1,h2,rfl⟩
end Go.Ab.Pn
/-
  The normal form of a policy: the program's functions Of and Is.
-/
namespace Go.Ab.Pn
open Go.Ab.Pol
set_option maxRecDepth 100000
set_option maxHeartbeats 4000000
mutual
theorem Oj{us:List Us}{l:List Sc}{Q:Nd->Prop}:∀ c:Cd,NF us l Q c->WOk c
 |.atom k num vs,h=>by
  rcases h.2 with⟨_,a,b,rfl,_⟩ |⟨_,_,x,lo,hi,rfl,_⟩<;>simp[WOk]
 |.gate need ks,h=>⟨λe=>by
   have:=h.1;rw[e]at this;simp at this,J0 ks h.2.2.2⟩
theorem J0{us:List Us}{l:List Sc}{Q:Nd->Prop}{need:Int}{n:Nat}:∀ cs:List Cd,NFs us l Q need n cs->RX cs
 | [],_=>trivial
 |c :: cs,h=>⟨Oj c h.1,J0 cs h.2.2⟩
end
theorem RZ{us:List Us}{l:List Sc}{Q:Nd->Prop}{c:Cd}(h:NFp us l Q c):WOk c:=by
 rcases h with⟨b,rfl⟩ |h
 ·simp[cB,WOk]
 ·exact Oj c h
mutual
theorem Ol:∀ {t:Tr} {c:Bool},WF t c->∀ s∈t.subs,∃ c',WF s c'
 |.nd i n ks,c,h,s,hs=>by
  simp only[Tr.subs,adY]at hs;rcases hs with rfl |hs
  ·exact⟨c,h⟩
  ·exact J1 h.2 s hs
theorem J1:∀ {ts:List Tr} {c:Bool},WFs ts c->∀ s∈Tr.br ts,∃ c',WF s c'
 | [],c,h,s,hs=>by simp[Tr.br]at hs
 |t :: ts,c,h,s,hs=>by
  simp only[Tr.br,aep]at hs;rcases hs with hs |hs
  ·exact Ol h.1 s hs
  ·exact J1 h.2 s hs
end
theorem R3{p:Po}{t:Tr}(g:Pol.Good p t):∀ n∈p.nodes.l,Fk n:=λn hn hk=>by
 obtain⟨i,hi,e⟩:=afn hn;obtain⟨s,hs,es⟩:=NN g hi;obtain⟨c,w⟩:=Ol g.wf s hs;have h1:=(Ar (jt g.isT s hs)).1;rw[es,aea hi,e]at h1;injection h1 with h1
 subst h1;cases s with
 |nd j m ks=>
  obtain⟨_,_,_,_,_,lo,hi2⟩:=eJ w.1;simp only[Tr.n]at hk ⊢;simp only[EZ,xe,hk]at lo hi2;simp at lo hi2;omega
theorem FW{p:Po}(z:Sz p){t:Tr}(g:Pol.Good p t){l:List Sc}(hs:(aS p l t).size<=1000):Sz (bA p l t):=Vj z (Oi z g.isT _ _) hs
theorem size_le{p:Po}{l:List Sc}{t:Tr}(ht:chk p=0->Pol.Good p t)(hn:p.nodes.l.length<=100):(fB p l t).2=0->(aS p l t).size<=1000:=λh0=>by
 have g:=ht (kI (pE h0).1.ready).chk;have:=norm_le g l;omega
theorem f15(p:Po)(z:Sz p)(l:Sl Sc)(zl:okL l)(t:Tr)(ht:chk p=0->Pol.Good p t)(hn:(fB p l.l t).2=0->(aS p l.l t).size<=1000)(h:Heap) :
  (mu K).fn 15 [p.av,l.avS Sc.av] h=some (.val (.tup [(iD p l.l t).1.av,.int .i64 (iD p l.l t).2]) h):=by
 have k38:=λh=>f47 p z l zl t ht h
 have q1:=ay _ dR p.uses;have q2:=ay _ fK p.aA;have q3:=ay _ dK p.nodes;have q4:=ay _ fC l;have ez:zPo.av=.agg [.str [],.aj,.aj,.aj,iV 0,.str [],iV 0,.str []]:=rfl;by_cases h0:(fB p l.l t).2=0
 case neg=>
  have e:iD p l.l t=(zPo,(fB p l.l t).2):=by unfold iD;rw[if_pos h0]
  rw[e];simp only[ez];rw[aB (KX _ _ _) TN rfl (by simp[c15])];simp[c15,KL,aa,k38,h0,q1,q2,q3,q4]
 obtain⟨hF,_⟩:=pE h0;have hr:=kI hF.ready;have g:=ht hr.chk;have nok:NOk p l.l t:=⟨g.isT,Om t g.isT g.wf (gS h0).2.2,g.wf,by
  have h2:t.subs.length=t.pre.length:=by rw[mA];simp
  rw[h2,g.all];have:=g.sizes.1;omega⟩
 have oJ:=λh=>f50 p z l zl hF.ready (R3 g) t false nok h
 rw[g.root]at oJ;have hnf:NFp p.uses.l l.l (λ_=>True) (aS p l.l t):=mE g h0 (λ_ _ _=>trivial) false;have hle:=hn h0;have kw:=λh=>Vi (aS p l.l t) (RZ hnf) (by omega) h
 have zq:=FW z g (hn (by first |exact h0 |exact h1));have k24:=λh=>f51 (bA p l.l t) zq h
 have k80:=λh=>f48 p.uses z.uses.1 h
 have k81:=λh=>f49 p.aA z.aA.1 h
 have eq:(bA p l.l t).av=.agg [.str p.name,p.uses.avS Us.av,p.aA.avS Rf.av,.lst ((flat 0 (aS p l.l t)).map Nd.av),iV 0,.str p.scope,iV p.limit,.str p.cD]:=by
  simp[bA,ij,Sl.avS]
 have lk:List.lookup (254:TypeId) [((252:TypeId),(277:FuncId)),(254,278)]=some 278:=rfl;have e3:iD p l.l t=if chk (bA p l.l t)≠0 then (zPo,chk (bA p l.l t)) else (bA p l.l t,0):=by unfold iD;rw[if_neg (by simp[h0])]
 rw[e3];rw[eq]at k24;have hC:norm (ak p.uses.l l.l) false t=aS p l.l t:=rfl;rw[hC]at oJ;simp only[cH,Po.cs,ad4,aeb]at oJ;by_cases hc:chk (bA p l.l t)=0
 ·rw[if_neg (by simp[hc])];rw[hc]at k24;simp only[eq];generalize (flat 0 (aS p l.l t)).map Nd.av=M at *
  rw[aB (KX _ _ _) TN rfl (by simp[c15])];generalize aS p l.l t=C at *
  cases C with
  |atom ck cn vs=>
   simp only[wrF,wrV]at kw;rw[aO]at oJ;simp[c15,KL,aa,k38,h0,q1,q2,q3,q4,k80,k81,oJ,kw,k24]
  |gate cn cks=>
   simp only[wrF,wrV]at kw;rw[aO,fq]at oJ;simp[c15,KL,aa,k38,h0,q1,q2,q3,q4,k80,k81,oJ,kw,k24,lk]
 ·rw[if_pos hc];simp only[ez];generalize (flat 0 (aS p l.l t)).map Nd.av=M at *
  rw[aB (KX _ _ _) TN rfl (by simp[c15])];generalize chk (bA p l.l t)=e at *
  generalize aS p l.l t=C at *
  cases C with
  |atom ck cn vs=>
   simp only[wrF,wrV]at kw;rw[aO]at oJ;simp[c15,KL,aa,k38,h0,q1,q2,q3,q4,k80,k81,oJ,kw,k24,hc]
  |gate cn cks=>
   simp only[wrF,wrV]at kw;rw[aO,fq]at oJ;simp[c15,KL,aa,k38,h0,q1,q2,q3,q4,k80,k81,oJ,kw,k24,lk,hc]
end Go.Ab.Pn
/-
  The evaluator that knows all references;the place of a field.
-/
namespace Go.Ab.Pn
open Go.Ab.Pol
set_option maxRecDepth 100000
set_option maxHeartbeats 4000000
open Go.Proofs
noncomputable def K5:Cfg:=K4.know mN
theorem Ux:ct Tryz.prog (mu K5):=H9 rfl rfl aaN NR
theorem up5{f:FuncId}{a:List AV}{h:Heap}{r:Out}(e:(mu K4).fn f a h=some r):(mu K5).fn f a h=some r:=(JA K4 mN).fn _ _ _ _ e
theorem HV{f:FuncId}{a:List AV}{h:Heap}{r:Out}(e:(mu K).fn f a h=some r):(mu K5).fn f a h=some r:=up5 (up4 e)
theorem KX5(f:FuncId)(a:List AV)(h:Heap)(h0:hkF f=false:=by rfl)(h1:f≠120:=by decide)(h2:f≠16:=by decide)(h3:f≠15:=by decide):K5.X f a h=none:=by
 show (match K4.X f a h with
   |some r=>some r
   |none=>(match mN f a h with
    |some r=>(match (mu K4).fn f a h with
     |some r'=>some r'
     |none=>some r)
    |none=>none))=none
 rw[KX4 f a h h0 h1 h2 h3,NQ h2]
theorem KL5(f:FuncId):K5.jq f=aa f:=rfl
theorem Ul{f:FuncId}{cf:aI}(h:K.fns f=some cf):K5.fns f=some cf:=h
theorem Gd(p:Po)(hp:Sz p)(hc:chk p=0)(h:Heap)(hX:K4.X 16 [p.av] h=none):(mu K4).fn 16 [p.av] h=none:=by
 have k24:=λh=>up4 (f51 p hp h)
 rw[hc]at k24;have k74:=λT h=>up4 (f52 p T h)
 have cb:∀ s,evC K4 (mu K4) .bad s=none:=λ_=>rfl
 have gs:∀ b,goS K4 (mu K4) b none=none:=λ_=>rfl
 rw[aB hX (Nj Yv) rfl (by simp[c16])];simp[c16,KL4,aa,k24,k74,cb,AW,gs,AX]
theorem J2{p:Po}{t:Tr}(g:Pol.Good p t)(n:Int)(hc:chk (lq n)=0)(e:p.av=(lq n).av):bW p t=bW (lq n) (aV 0 (L5 n)):=by
 have g2:Pol.Good (lq n) (aV 0 (L5 n)):=mP hc;exact JC g.isT g2.isT g.root g2.root e
theorem adl(p:Po)(hp:Sz p)(hc:chk p=0)(t:Tr)(g:Pol.Good p t)(h:Heap):(mu K5).fn 16 [p.av] h=some (.val (.lst ((bW p t).map Rf.av)) h):=by
 have hK:K.X 16 [p.av] h=none:=KX _ _ _;have e:K5.X 16 [p.av] h=some (.val (.lst ((bW p t).map Rf.av)) h):=by
  show (match K4.X 16 [p.av] h with
   |some r=>some r
   |none=>(match mN 16 [p.av] h with
    |some r=>(match (mu K4).fn 16 [p.av] h with
     |some r'=>some r'
     |none=>some r)
    |none=>none))=_
  have e4:K4.X 16 [p.av] h=exX 16 [p.av] h:=by
   show (match K.X 16 [p.av] h with
    |some r=>some r
    |none=>exX 16 [p.av] h)=_
   rw[hK]
  have ex:exX 16 [p.av] h=(if AV.eG [p.av] [(lq 2).av]=true∨AV.eG [p.av] [(lq 1).av]=true then some (.val (.lst (Bd.map Rf.av)) h) else none):=rfl;by_cases c:AV.eG [p.av] [(lq 2).av]=true∨AV.eG [p.av] [(lq 1).av]=true
  ·rw[e4,ex,if_pos c];have:bW p t=Bd:=by
    rcases c with c |c
    ·have:=AV.dQ _ _ c;injection this with this
     rw[J2 g 2 En this,Ge]
    ·have:=AV.dQ _ _ c;injection this with this
     rw[J2 g 1 Eo this,Gf]
   rw[this]
  ·have e0:K4.X 16 [p.av] h=none:=by rw[e4,ex,if_neg c]
   rw[e0,FP hp g h,Gd p hp hc h e0]
 rw[dB];simp[step,gm,e]
theorem f37(p:Po)(hp:Sz p)(l:Sl Sc)(hl:okL l)(r:Rf)(u k:Nat)(f:Pol.Fd)(hr:bI p l.l=0)(hf:findF p.uses.l l.l r=some (u,k,f))(h:Heap)(a a':Loc)(ha:hget h a=some (.box 26 false p.av))(ha':hget h a'=some (.box 27 false (l.avS Sc.av))) :
  (mu K).fn 37 [r.av,.ptr a 0,.ptr a' 0] h=some (.val (.tup [(pcR p.uses.l l.l r).av,f.av]) h):=by
 obtain⟨n1,n2⟩:=bZ ha;obtain⟨n3,n4⟩:=bZ ha';have k38:=λh=>f38 p hp l hl r h
 have e:lV p l.l r=(some (u,k,f),0):=by unfold lV;rw[if_neg (by simp[hr]),hf]
 simp only[e,rG,pN]at k38;have ep:pcR p.uses.l l.l r=⟨(u:Int),(k:Int)+2⟩:=by unfold pcR;rw[hf]
 have qw:=ay _ cS f.words;rw[ep];rw[aB (KX _ _ _) acw rfl (by simp[c37])];simp[c37,KL,aa,hget,ha,ha',n1,n2,n3,n4,k38,qw,AV.beq,AV.eG]
end Go.Ab.Pn
/-
  The wD fields are laid: the loops of the program's function Of.
-/
namespace Go.Ab.Pn
open Go.Ab.Pol
set_option maxRecDepth 100000
set_option maxHeartbeats 4000000
/- Maps of words and of fields. -/
def wsG(k:Nat):List Bs->List (AV×AV)
 | []=>[]
 |w :: l=>(.str w,iV (k:Int)) :: wsG (k+1) l
theorem Oo(w:Bs):∀ (l:List Bs) (k:Nat),w∉l->rY (.one .str) (.str w) (iV ((k+l.length:Nat):Int)) (wsG k l)=some (wsG k (l++[w]))
 | [],k,_=>by simp[wsG,rY]
 |y :: l,k,h=>by
  simp only[adY,not_or]at h;have ih:=Oo w l (k+1) h.2;rw[show k+1+l.length=k+(y :: l).length by simp only[ad1];omega]at ih;simp only[wsG,rY,eqK,eqF,h.1,decide_false,ih,ad4]
theorem J3(w:Bs):∀ (l:List Bs) (k:Nat),fY (.one .str) (.str w) (wsG k l)=some ((l.findIdx? λx=>decide (x=w)).map λi=>iV ((k+i:Nat):Int))
 | [],k=>by simp[wsG,fY]
 |y :: l,k=>by
  have ih:=J3 w l (k+1);by_cases e:w=y
  ·subst e;simp[wsG,fY,eqK,eqF,afh]
  ·have e':¬ y=w:=λq=>e q.symm
   simp only[wsG,fY,eqK,eqF,afh,e,e',decide_false,ih,Option.map_map];simp only[aef,if_false,Option.map_map]
   congr 2
   funext i
   simp only[Function.comp]
   congr 2
   omega
theorem Vk(f:Pol.Fd):WdM f (wsG 0 f.words.l):=λw=>by
 have:=J3 w f.words.l 0;simp only[ad7]at this;exact this
section
variable(n:Nat)(fdR:Rf->Pol.Fd)
def flG(k:Nat):List Rf->List (AV×AV)
 | []=>[]
 |r :: l=>(r.av,iG (k:Int) (fdR r) (.mp (n,5*k+14))) :: flG (k+1) l
theorem Oq(r:Rf):∀ (l:List Rf) (k:Nat),r∉l->rY (.st [.str,.str]) r.av (iG ((k+l.length:Nat):Int) (fdR r) (.mp (n,5*(k+l.length)+14))) (flG n fdR k l)=some (flG n fdR k (l++[r]))
 | [],k,_=>by simp[flG,rY]
 |y :: l,k,h=>by
  simp only[adY,not_or]at h;have ih:=Oq r l (k+1) h.2;rw[show k+1+l.length=k+(y :: l).length by simp only[ad1];omega]at ih;have hne:eqK (.st [.str,.str]) r.av y.av=some false:=by
   obtain⟨a,b⟩:=r;obtain⟨c,d⟩:=y;have:¬ (a=c∧b=d):=λq=>h.1 (by rw[q.1,q.2])
   simp only[eqK,dN,eqF];by_cases e1:a=c
   ·have e2:¬ b=d:=λq=>this ⟨e1,q⟩
    simp[e2]
   ·simp[e1]
  simp only[flG,rY,hne,ih,ad4]
theorem J4(r:Rf):∀ (l:List Rf) (k:Nat),r∈l->fY (.st [.str,.str]) r.av (flG n fdR k l)=some (some (iG ((k+(l.findIdx? λx=>decide (x=r)).getD 0:Nat):Int) (fdR r) (.mp (n,5*(k+(l.findIdx? λx=>decide (x=r)).getD 0)+14))))
 | [],k,h=>by cases h
 |y :: l,k,h=>by
  by_cases e:y=r
  ·subst e;simp[flG,fY,eqK,dN,eqF,afh]
  ·have hm:r∈l:=by
    rcases adY.1 h with q |q
    ·exact absurd q.symm e
    ·exact q
   have ih:=J4 r l (k+1) hm;have hne:eqK (.st [.str,.str]) r.av y.av=some false:=by
    obtain⟨a,b⟩:=r;obtain⟨c,d⟩:=y;have:¬ (a=c∧b=d):=λq=>e (by rw[q.1,q.2])
    simp only[eqK,dN,eqF];by_cases e1:a=c
    ·have e2:¬ b=d:=λq=>this ⟨e1,q⟩
     simp[e2]
    ·simp[e1]
   obtain⟨i,hi⟩:∃ i,(l.findIdx? λx=>decide (x=r))=some i:=by
    cases q:l.findIdx? λx=>decide (x=r) with
    |none=>
     rw[List.findIdx?_eq_none_iff]at q;have:=q r hm;simp at this
    |some i=>exact⟨i,rfl⟩
   rw[hi]at ih;simp only[flG,fY,hne,ih,afh,e,decide_false,aef,if_false,hi,aeK,aeE];rw[show k+1+i=k+(i+1) by omega]
end
theorem Gg(a4 a5 a6 a7 a8 a9 a15 a16 a77 a78 a79:AV)(nl:Bool)(ws:List Bs)(hk:ws.length<=1000)(hd:ws.Nodup)(b15 b16 b17:Blk)(c0 c1 c2 c3 c4 c5:AV)(T:List Blk)(h:Heap) :
  ∀ (s pre:List Bs),ws=pre++s->∃ env,
   (mu K5).code (.af (T.length+5) [4,5,6,7,8,9,15,16,18,77,78,79,95,96,97] Cy) ⟨[(4,a4),(5,a5),(6,a6),(7,a7),(8,a8),(9,a9),(15,a15),(16,a16),(18,.ptr (h.length,T.length+4) 0),(77,a77),(78,a78),(79,a79),(95,(⟨nl,ws⟩:Sl Bs).avS .str),(96,iV (ws.length:Int)),(97,iV (pre.length:Int))],
    (T++[b15,b16,b17,.map (wsG 0 pre),.box 102 false (.agg [c0,c1,c2,c3,c4,c5,.mp (h.length,T.length+3)])]) :: h⟩ =
   some (.exit 4,⟨env,(T++[b15,b16,b17,.map (wsG 0 ws),.box 102 false (.agg [c0,c1,c2,c3,c4,c5,.mp (h.length,T.length+3)])]) :: h⟩) ∧
   get env 4=a4∧get env 5=a5∧get env 6=a6∧get env 7=a7∧get env 8=a8∧get env 9=a9∧get env 15=a15∧get env 16=a16∧get env 18=.ptr (h.length,T.length+4) 0∧get env 77=a77∧get env 78=a78∧get env 79=a79
 | [],pre,e=>by
  rw[ael]at e;subst e;rw[au];generalize (mu K5).code (.af (T.length+5) [4,5,6,7,8,9,15,16,18,77,78,79,95,96,97] Cy)=F;simp[Cy]
 |w :: s,pre,e=>by
  obtain⟨env,ih,x⟩:=Gg a4 a5 a6 a7 a8 a9 a15 a16 a77 a78 a79 nl ws hk hd b15 b16 b17 c0 c1 c2 c3 c4 c5 T h s (pre++[w]) (by simp[e]);refine⟨env,?_,x⟩;rw[<-ih];have hl:ws.length=pre.length+(s.length+1):=by rw[e];simp
  have c1:(pre.length<ws.length)=True:=eq_true (by omega);have hn:w∉pre:=λhm=>by
   rw[e,aeQ]at hd;exact hd.2.2 w hm w (by simp) rfl
  have hu:=Oo w pre 0 hn;simp only[ad7]at hu;have w2:IntKind.i64.wrap ((pre.length:Int)+1)=(pre.length:Int)+1:=wrap64 (by omega) (by omega);have hia:=λ(q:IntKind)=>aG (av:=AV.str) (sz:=1) (s:=⟨nl,ws⟩) (k:=q) (j:=(pre.length:Int)) (x:=w) (by omega) (by rw[e];simp) rfl
  rw[au];generalize (mu K5).code (.af (T.length+5) [4,5,6,7,8,9,15,16,18,77,78,79,95,96,97] Cy)=F at *
  simp only[ad9,ad1,adZ,ad7];rw[show ((pre.length+1:Nat):Int)=(pre.length:Int)+1 by omega];simp[Cy,c1,hia,qU,qV,w2,hu,eqK,eqF]
end Go.Ab.Pn
/-
  The W8 and the wD places.
-/
namespace Go.Ab.Pn
open Go.Ab.Pol
set_option maxRecDepth 100000
set_option maxHeartbeats 4000000
def pcB:List Pc->Blk
 | []=>.arr 0 0 false []
 |x :: r=>.arr 47 2 false ((x :: r).map Pc.av)
theorem tD(l:List Pc):∃ t z,pcB l=.arr t z false (l.map Pc.av)∧(z=0∨t=47∧z=2):=by
 cases l with
 |nil=>exact⟨0,0,rfl,.inl rfl⟩
 |cons i s=>exact⟨47,2,rfl,.inr ⟨rfl,rfl⟩⟩
theorem Gh(l:List Pc)(x:Pc):pcB (l++[x])=.arr 47 2 false (l.map Pc.av++[x.av]):=by
 cases l with
 |nil=>rfl
 |cons j s=>simp[pcB]
abbrev fnd(n:Nat):AV:=.fn (.func 37) [] [.ptr (n,0) 0,.ptr (n,1) 0]
abbrev OfF(p:Po)(l:Sl Sc)(q:Po)(nodes:Sl Nd)(es:List (AV×AV))(D C:List Pc)(A S:List Pt)(n:Nat):List Blk:=
 [.box 26 false p.av,.box 27 false (l.avS Sc.av),.box 36 false (.agg [.aj,.aj,.aj,.aj,.aj]),.box 37 false (iV 0),.box 26 false q.av,.map es,pcB D,pcB C,ptB A,ptB S,
  mkB nodes (n,5) (.own (n,6) D.length) (.own (n,7) C.length) (n,8) (n,9) A.length S.length]
theorem Ot(f:Loc->Bool)(p:Po):p.av.aJ f=true:=by simp[AV.aJ,AV.bQ]
section
variable(p:Po)(hp:Sz p)(l:Sl Sc)(hl:okL l)(hr:bI p l.l=0)(q:Po)(nodes:Sl Nd)(h:Heap)(a7:AV)(p7:a7.pure=true)
include hp hl hr p7
theorem Gi(hv:∀ r∈p.aA.l,(findF p.uses.l l.l r).isSome=true)(hs:p.aA.l.length<=1000):∀ (s pre:List Rf),p.aA.l=pre++s->∃ env,
  (mu K5).code (.af 11 [4,5,6,7,8,9,51,52,53] zS) ⟨[(4,.ptr (h.length,2) 0),(5,.ptr (h.length,3) 0),(6,.ptr (h.length,4) 0),(7,a7),(8,.ptr (h.length,10) 0),(9,fnd h.length),(51,p.aA.avS Rf.av),(52,iV (p.aA.l.length:Int)),(53,iV (pre.length:Int))],OfF p l q nodes [] (pre.map (pcR p.uses.l l.l)) [] [] [] h.length :: h⟩ =
   some (.exit 0,⟨env,OfF p l q nodes [] (p.aA.l.map (pcR p.uses.l l.l)) [] [] [] h.length :: h⟩) ∧
   get env 4=.ptr (h.length,2) 0∧get env 5=.ptr (h.length,3) 0∧get env 6=.ptr (h.length,4) 0∧get env 7=a7∧get env 8=.ptr (h.length,10) 0∧get env 9=fnd h.length
 | [],pre,hh=>by
  rw[ael]at hh;rw[au];generalize (mu K5).code (.af 11 [4,5,6,7,8,9,51,52,53] zS)=F;rw[hh];simp[zS]
 |r :: s,pre,hh=>by
  obtain⟨env,ih,x⟩:=Gi hv hs s (pre++[r]) (by simp[hh]);refine⟨env,?_,x⟩;rw[<-ih];have hlen:p.aA.l.length=pre.length+(s.length+1):=by rw[hh];simp
  have c1:(pre.length<p.aA.l.length)=True:=eq_true (by omega);have w2:IntKind.i64.wrap ((pre.length:Int)+1)=(pre.length:Int)+1:=wrap64 (by omega) (by omega);have hia:=λ(k:IntKind)=>aG (av:=Rf.av) (sz:=2) (s:=p.aA) (k:=k) (j:=(pre.length:Int)) (x:=r) (by omega) (by rw[hh];simp) rfl
  obtain⟨⟨u,k,f⟩,hf⟩:=ae5.1 (hv r (by rw[hh];simp));have k37:=λH ha ha'=>HV (f37 p hp l hl r u k f hr hf H (h.length,0) (h.length,1) ha ha')
  rw[aey,Io,aei];have hlp:(pre.map (pcR p.uses.l l.l)).length=pre.length:=by simp
  generalize hD:pre.map (pcR p.uses.l l.l)=D at *
  generalize pcR p.uses.l l.l r=pc at *
  obtain⟨ot,oz,ho,hz⟩:=tD D;have r1:(D.length+1)*16<=room:=by unfold room;omega
  have r2:D.length+1<=room:=by unfold room;omega
  have hs2:=Gh D pc;have pq:=Ot;have q7:=fu a7 p7;have qw:=ay _ cS f.words;simp only[OfF,hs2,mkB,ad9,ad1,adZ,ad7];rw[ho,show ((pre.length+1:Nat):Int)=(pre.length:Int)+1 by omega];rw[au];generalize (mu K5).code (.af 11 [4,5,6,7,8,9,51,52,53] zS)=F at *
  simp[zS,KL5,aa,c1,hia,w2,k37,r1,r2,hz,fW,pcB,q7,qw,AV.beq,AV.eG]
end
end Go.Ab.Pn
/-
  The wD fields.
-/
namespace Go.Ab.Pn
open Go.Ab.Pol
set_option maxRecDepth 100000
set_option maxHeartbeats 4000000
def gz(us:List Us)(l:List Sc)(r:Rf):Pol.Fd:=match findF us l r with
 |none=>zFd
 |some (_,_,f)=>f
theorem J5(us:List Us)(l:List Sc)(n:Nd):ak us l n=gz us l ⟨n.nm,n.attr⟩:=rfl
def RR(n:Nat)(us:List Us)(l:List Sc)(k:Nat):List Rf->List Blk
 | []=>[]
 |r :: s=>.box 54 false r.av :: .box 47 false (pcR us l r).av :: .box 50 false (gz us l r).av :: .map (wsG 0 (gz us l r).words.l) :: .box 102 false (iG (k:Int) (gz us l r) (.mp (n,5*k+14))) :: RR n us l (k+1) s
theorem J6(n:Nat)(us:List Us)(l:List Sc)(r:Rf):∀ (s:List Rf) (k:Nat),RR n us l k (s++[r])=RR n us l k s++[.box 54 false r.av,.box 47 false (pcR us l r).av,.box 50 false (gz us l r).av,.map (wsG 0 (gz us l r).words.l),.box 102 false (iG ((k+s.length:Nat):Int) (gz us l r) (.mp (n,5*(k+s.length)+14)))]
 | [],k=>by simp[RR]
 |x :: s,k=>by
  have ih:=J6 n us l r s (k+1);rw[show k+1+s.length=k+(x :: s).length by simp only[ad1];omega]at ih;simp only[ad4,RR,ih]
theorem Ou(n:Nat)(us:List Us)(l:List Sc):∀ (s:List Rf) (k:Nat),(RR n us l k s).length=5*s.length
 | [],k=>rfl
 |x :: s,k=>by simp only[RR,ad1,Ou n us l s];omega
theorem Gj(n:Nat)(F:Rf->Pol.Fd)(r:Rf):∀ (s:List Rf) (k:Nat),flG n F k (s++[r])=flG n F k s++[(r.av,iG ((k+s.length:Nat):Int) (F r) (.mp (n,5*(k+s.length)+14)))]
 | [],k=>by simp[flG]
 |x :: s,k=>by
  have ih:=Gj n F r s (k+1);rw[show k+1+s.length=k+(x :: s).length by simp only[ad1];omega]at ih;simp only[ad4,flG,ih]
theorem R4{p:Po}{l:List Sc}(hr:bI p l=0)(r:Rf)(hs:(findF p.uses.l l r).isSome=true):FdW (gz p.uses.l l r)∧(gz p.uses.l l r).words.l.Nodup:=by
 have e:=J5 p.uses.l l ⟨9,0,r.al,r.attr,⟨true,[]⟩,0⟩;refine⟨by have:=jS hr p.uses.l ⟨9,0,r.al,r.attr,⟨true,[]⟩,0⟩;rw[e]at this;exact this,?_⟩;obtain⟨⟨u,k,f⟩,hf⟩:=ae5.1 hs;have:gz p.uses.l l r=f:=by unfold gz;rw[hf]
 rw[this];obtain⟨x,s,_,_,a3,a4,_⟩:=pS hf;have h1:=(nN (eK (cx hr).2.1 s (oY a3).1)).2 f (aee a4);unfold dh at h1;split at h1
 ·split at h1
  ·exact absurd h1 (by decide)
  ·rename_i q;have:f.words.l=[]:=by simpa using q
   rw[this];exact List.nodup_nil
 ·split at h1
  ·split at h1
   ·exact absurd h1 (by decide)
   ·unfold sV at h1;split at h1
    ·exact absurd h1 (by decide)
    ·have key:∀ (ws met:List Bs),kC met ws=0->met.Nodup->(met++ws).Nodup:=by
      intro ws
      induction ws with
      |nil=>intro met _ h;simpa using h
      |cons w ws ih=>
       intro met hw hm;simp only[kC]at hw;split at hw
       ·exact absurd hw (by decide)
       split at hw
       ·exact absurd hw (by decide)
       ·rename_i q;have:=ih (met++[w]) hw (by
         rw[aeQ];exact⟨hm,by simp,λa ha b hb=>by
          rw[aed.1 hb];rintro rfl;exact q ha⟩)
        simpa using this
     simpa using key f.words.l [] h1 List.nodup_nil
  ·exact absurd h1 (by decide)
section
variable(p:Po)(hp:Sz p)(l:Sl Sc)(hl:okL l)(hr:bI p l.l=0)(q:Po)(nodes:Sl Nd)(h:Heap)(a7:AV)(p7:a7.pure=true)(D:List Pc)
include hp hl hr p7
theorem R5(refs pre s:List Rf)(r:Rf)(hh:refs=pre++r :: s)(hd:refs.Nodup)(hv:(findF p.uses.l l.l r).isSome=true)(hs:refs.length<=1000) :
  (mu K5).code (.af 11 [4,5,6,7,8,9,77,78,79] tT) ⟨[(4,.ptr (h.length,2) 0),(5,.ptr (h.length,3) 0),(6,.ptr (h.length,4) 0),(7,a7),(8,.ptr (h.length,10) 0),(9,fnd h.length),(77,.lst (refs.map Rf.av)),(78,iV (refs.length:Int)),(79,iV (pre.length:Int))],(OfF p l q nodes (flG h.length (gz p.uses.l l.l) 0 pre) D (pre.map (pcR p.uses.l l.l)) [] [] h.length++RR h.length p.uses.l l.l 0 pre) :: h⟩ =
  (mu K5).code (.af 11 [4,5,6,7,8,9,77,78,79] tT) ⟨[(4,.ptr (h.length,2) 0),(5,.ptr (h.length,3) 0),(6,.ptr (h.length,4) 0),(7,a7),(8,.ptr (h.length,10) 0),(9,fnd h.length),(77,.lst (refs.map Rf.av)),(78,iV (refs.length:Int)),(79,iV ((pre++[r]).length:Int))],(OfF p l q nodes (flG h.length (gz p.uses.l l.l) 0 (pre++[r])) D ((pre++[r]).map (pcR p.uses.l l.l)) [] [] h.length++RR h.length p.uses.l l.l 0 (pre++[r])) :: h⟩:=by
 have hlen:refs.length=pre.length+(s.length+1):=by rw[hh];simp
 have c1:(pre.length<refs.length)=True:=eq_true (by omega);have w2:IntKind.i64.wrap ((pre.length:Int)+1)=(pre.length:Int)+1:=wrap64 (by omega) (by omega);have hia:∀ (k:IntKind),iaF 2 (.lst (refs.map Rf.av)) (.int k (pre.length:Int))=some (.dH r.av 0):=λk=>dU (by omega) (by rw[hh];simp) rfl
 obtain⟨hw1,hw2⟩:=R4 hr r hv;obtain⟨⟨u,k,f⟩,hf⟩:=ae5.1 hv;have ef:gz p.uses.l l.l r=f:=by unfold gz;rw[hf]
 have k37:=λH ha ha'=>HV (f37 p hp l hl r u k f hr hf H (h.length,0) (h.length,1) ha ha')
 have hn:r∉pre:=λhm=>by
  rw[hh,aeQ]at hd;exact hd.2.2 r hm r (by simp) rfl
 have hu:=Oq h.length (gz p.uses.l l.l) r pre 0 hn;rw[Gj]at hu ⊢;rw[J6,aey,Io,aei];have rl:=Ou h.length p.uses.l l.l pre 0;have hlp:(pre.map (pcR p.uses.l l.l)).length=pre.length:=by simp
 rw[ef]at hw1 hw2 hu ⊢;simp only[ad7]at hu ⊢;generalize hD:pre.map (pcR p.uses.l l.l)=C at *
 generalize pcR p.uses.l l.l r=pc at *
 generalize flG h.length (gz p.uses.l l.l) 0 pre=es at *
 generalize RR h.length p.uses.l l.l 0 pre=R at *
 obtain⟨ot,oz,ho,hz⟩:=tD C;have r1:(C.length+1)*16<=room:=by unfold room;omega
 have r2:C.length+1<=room:=by unfold room;omega
 have hs2:=Gh C pc;have q7:=fu a7 p7;have qw:=ay _ cS f.words;have n1:5*pre.length+14=R.length+14:=by omega
 rw[n1]at hu ⊢;simp only[OfF,hs2,mkB,ad9,ad1,adZ,ad7];rw[ho,show ((pre.length+1:Nat):Int)=(pre.length:Int)+1 by omega];obtain⟨env,k1,x4,x5,x6,x7,x8,x9,x15,x16,x18,x77,x78,x79⟩:=Gg (.ptr (h.length,2) 0) (.ptr (h.length,3) 0) (.ptr (h.length,4) 0) a7 (.ptr (h.length,10) 0) (fnd h.length) (.ptr (h.length,R.length+11) 0) (.ptr (h.length,R.length+12) 0) (.lst (refs.map Rf.av)) (iV (refs.length:Int)) (iV (pre.length:Int))
  f.words.nl f.words.l (by have:=hw1.2.2.2.2;omega) hw2 (.box 54 false r.av) (.box 47 false pc.av) (.box 50 false f.av) (iV (pre.length:Int)) (.str f.name) (iV f.kind) (iV f.mn) (iV f.mx) (f.words.avS .str)
  (.box 26 false p.av :: .box 27 false (l.avS Sc.av) :: .box 36 false (.agg [.aj,.aj,.aj,.aj,.aj]) :: .box 37 false (iV 0) :: .box 26 false q.av :: .map es :: pcB D :: .arr ot oz false (C.map Pc.av) :: ptB [] :: ptB [] ::
   .box 95 false (.agg [nodes.avS Nd.av,.mp (h.length,5),.own (h.length,6) D.length,.own (h.length,7) C.length,.own (h.length,8) 0,.aj,.own (h.length,9) 0]) :: R) h f.words.l [] rfl
 have ew:(⟨f.words.nl,f.words.l⟩:Sl Bs)=f.words:=rfl;have w0:wsG 0 []=[]:=rfl;rw[ew,w0]at k1;rw[au];generalize (mu K5).code (.af 11 [4,5,6,7,8,9,77,78,79] tT)=F at *
 obtain⟨ot2,oz2,ho2,_⟩:=tD D;rw[ho2,fW]at k1;rw[ho2,fW];have n2:(R.length+14<11)=False:=eq_false (by omega);simp[aeP]at k1;have ek:eqK (.st [.str,.str]) r.av r.av=some true:=by simp[eqK,dN,eqF]
 simp[tT,KL5,aa,c1,hia,w2,k37,r1,r2,hz,q7,qw,AV.beq,AV.eG,k1,x4,x5,x6,x7,x8,x9,x15,x16,x18,x77,x78,x79,qU,pV,qV,pW,aeP,hu,ek,n2]
theorem Gk(refs:List Rf)(hd:refs.Nodup)(hv:∀ r∈refs,(findF p.uses.l l.l r).isSome=true)(hs:refs.length<=1000):∀ (s pre:List Rf),refs=pre++s->∃ env,
  (mu K5).code (.af 11 [4,5,6,7,8,9,77,78,79] tT) ⟨[(4,.ptr (h.length,2) 0),(5,.ptr (h.length,3) 0),(6,.ptr (h.length,4) 0),(7,a7),(8,.ptr (h.length,10) 0),(9,fnd h.length),(77,.lst (refs.map Rf.av)),(78,iV (refs.length:Int)),(79,iV (pre.length:Int))],(OfF p l q nodes (flG h.length (gz p.uses.l l.l) 0 pre) D (pre.map (pcR p.uses.l l.l)) [] [] h.length++RR h.length p.uses.l l.l 0 pre) :: h⟩ =
   some (.exit 2,⟨env,(OfF p l q nodes (flG h.length (gz p.uses.l l.l) 0 refs) D (refs.map (pcR p.uses.l l.l)) [] [] h.length++RR h.length p.uses.l l.l 0 refs) :: h⟩) ∧
   get env 4=.ptr (h.length,2) 0∧get env 5=.ptr (h.length,3) 0∧get env 6=.ptr (h.length,4) 0∧get env 7=a7∧get env 8=.ptr (h.length,10) 0
 | [],pre,hh=>by
  rw[ael]at hh;rw[au];generalize (mu K5).code (.af 11 [4,5,6,7,8,9,77,78,79] tT)=F;rw[hh];simp[tT]
 |r :: s,pre,hh=>by
  obtain⟨env,ih,x⟩:=Gk refs hd hv hs s (pre++[r]) (by simp[hh]);refine⟨env,?_,x⟩;rw[<-ih];exact R5 p hp l hl hr q nodes h a7 p7 D refs pre s r hh hd (hv r (by rw[hh];simp)) hs
end
end Go.Ab.Pn
