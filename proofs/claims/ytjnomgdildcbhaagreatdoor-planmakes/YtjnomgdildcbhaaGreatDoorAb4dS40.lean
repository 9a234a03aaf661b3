/-
  The examples of chapter 47, by the kernel.
-/
import Derived.Test.YtjnomgdildcbhaaGreatDoorAb4dT2
import Derived.Test.YtjnomgdildcbhaaGreatDoorAb4dU10
import Derived.Test.YtjnomgdildcbhaaGreatDoorAb4dS21
import Derived.Test.YtjnomgdildcbhaaGreatDoorAb4dT1
import Derived.Test.YtjnomgdildcbhaaGreatDoorAb4dU3
set_option linter.all false
noncomputable section
set_option maxRecDepth 100000
set_option maxHeartbeats 4000000
namespace Go.Ab.Pn
open Go.Ab Go.Ab.Pol
theorem H7(f:List Blk):(evF K4 100).fn 11 [] [f]=some (.val (.bool true) [f]):=by kernel_rfl
theorem S8(f:List Blk):(mu K4).fn 11 [] [f]=some (.val (.bool true) [f]):=(uZ K4 100).fn _ _ _ _ (H7 f)
open Go.Ab.Pol
open Go.Proofs
def K5:Cfg:=K4.know nY
theorem Wn:cV Tryz.prog (mu K5):=JY rfl rfl abB PZ
theorem up5{f:FuncId}{a:List AV}{h:Heap}{r:Out}(e:(mu K4).fn f a h=some r):(mu K5).fn f a h=some r:=(LM K4 nY).fn _ _ _ _ e
theorem JE{f:FuncId}{a:List AV}{h:Heap}{r:Out}(e:(mu K).fn f a h=some r):(mu K5).fn f a h=some r:=up5 (up4 e)
theorem KX5(f:FuncId)(a:List AV)(h:Heap)(h0:hkF f=false:=by rfl)(h1:f≠120:=by decide)(h2:f≠16:=by decide)(h3:f≠15:=by decide):K5.X f a h=none:=by
 show (match K4.X f a h with
   |some r=>some r
   |none=>(match nY f a h with
    |some r=>(match (mu K4).fn f a h with
     |some r'=>some r'
     |none=>some r)
    |none=>none))=none
 rw[KX4 f a h h0 h1 h2 h3,PY h2]
theorem KL5(f:FuncId):K5.jS f=aa f:=rfl
theorem aa3{f:FuncId}{cf:aK}(h:K.fns f=some cf):K5.fns f=some cf:=h
theorem H8(p:Po)(hp:Sz p)(hc:chk p=0)(h:Heap)(hX:K4.X 16 [p.av] h=none):(mu K4).fn 16 [p.av] h=none:=by
 have k24:=λh=>up4 (f51 p hp h)
 rw[hc]at k24;have k74:=λT h=>up4 (f52 p T h)
 have cb:∀s,evC K4 (mu K4) .bad s=none:=λ_=>rfl
 have gs:∀b,goS K4 (mu K4) b none=none:=λ_=>rfl
 rw[aC hX (aez YZ) rfl (by simp[c16])];simp[c16,KL4,aa,k24,k74,cb,Hy,gs,Co]
theorem LY{p:Po}{t:Tr}(g:Pol.Good p t)(n:Int)(hc:chk (mH n)=0)(e:p.av=(mH n).av):cS p t=cS (mH n) (cu 0 (NV n)):=by
 have g2:Pol.Good (mH n) (cu 0 (NV n)):=lZ hc;exact LL g.isT g2.isT g.root g2.root e
theorem aeA(p:Po)(hp:Sz p)(hc:chk p=0)(t:Tr)(g:Pol.Good p t)(h:Heap):(mu K5).fn 16 [p.av] h=some (.val (.lst ((cS p t).map Rf.av)) h):=by
 have hK:K.X 16 [p.av] h=none:=KX _ _ _;have e:K5.X 16 [p.av] h=some (.val (.lst ((cS p t).map Rf.av)) h):=by
  show (match K4.X 16 [p.av] h with
   |some r=>some r
   |none=>(match nY 16 [p.av] h with
    |some r=>(match (mu K4).fn 16 [p.av] h with
     |some r'=>some r'
     |none=>some r)
    |none=>none))=_
  have e4:K4.X 16 [p.av] h=exX 16 [p.av] h:=by
   show (match K.X 16 [p.av] h with
    |some r=>some r
    |none=>exX 16 [p.av] h)=_
   rw[hK]
  have ex:exX 16 [p.av] h=(if AV.dh [p.av] [(mH 2).av]=true∨AV.dh [p.av] [(mH 1).av]=true then some (.val (.lst (CE.map Rf.av)) h) else none):=rfl;by_cases c:AV.dh [p.av] [(mH 2).av]=true∨AV.dh [p.av] [(mH 1).av]=true
  ·rw[e4,ex,if_pos c];have:cS p t=CE:=by
    rcases c with c|c
    ·have:=AV.eV _ _ c;injection this with this
     rw[LY g 2 F6 this,H9]
    ·have:=AV.eV _ _ c;injection this with this
     rw[LY g 1 F7 this,Ia]
   rw[this]
  ·have e0:K4.X 16 [p.av] h=none:=by rw[e4,ex,if_neg c]
   rw[e0,Hx hp g h,H8 p hp hc h e0]
 rw[gp];simp[step,iY,e]
theorem f37(p:Po)(hp:Sz p)(l:Sl Sc)(hl:okL l)(r:Rf)(u k:Nat)(f:Pol.Fd)(hr:bz p l.l=0)(hf:findF p.uses.l l.l r=some (u,k,f))(h:Heap)(a a':Loc)(ha:hget h a=some (.box 26 false p.av))(ha':hget h a'=some (.box 27 false (l.avS Sc.av))) :
  (mu K).fn 37 [r.av,.ptr a 0,.ptr a' 0] h=some (.val (.tup [(pcR p.uses.l l.l r).av,f.av]) h):=by
 obtain⟨n1,n2⟩:=jq ha;obtain⟨n3,n4⟩:=jq ha';have k38:=λh=>f38 p hp l hl r h
 have e:fY p l.l r=(some (u,k,f),0):=by unfold fY;rw[if_neg (by simp[hr]),hf]
 simp only[e,gM,dU]at k38;have ep:pcR p.uses.l l.l r=⟨(u:Int),(k:Int)+2⟩:=by unfold pcR;rw[hf]
 have qw:=ak _ bD f.words;rw[ep];rw[aC (KX _ _ _) adD rfl (by simp[c37])];simp[c37,KL,aa,hget,ha,ha',n2,n4,k38,qw,AV.beq,AV.dh]
def wsG(k:Nat):List Bs->List (AV×AV)
 | []=>[]
 |w::l=>(.str w,iV (k:Int))::wsG (k+1) l
theorem Qp(w:Bs):∀(l:List Bs) (k:Nat),w∉l->uS (.one .str) (.str w) (iV ((k+l.length:Nat):Int)) (wsG k l)=some (wsG k (l++[w]))
 | [],k,_=>by simp[wsG,uS]
 |y::l,k,h=>by
  simp only[afp,not_or]at h;have ih:=Qp w l (k+1) h.2;rw[show k+1+l.length=k+(y::l).length by simp only[Io];omega]at ih;simp only[wsG,uS,eqK,eqF,h.1,decide_false,ih,afo]
theorem LZ(w:Bs):∀(l:List Bs) (k:Nat),gI (.one .str) (.str w) (wsG k l)=some ((l.findIdx? λx=>decide (x=w)).map λi=>iV ((k+i:Nat):Int))
 | [],k=>by simp[wsG,gI]
 |y::l,k=>by
  have ih:=LZ w l (k+1);by_cases e:w=y
  ·subst e;simp[wsG,gI,eqK,eqF,agn]
  ·have e':¬ y=w:=λq=>e q.symm
   simp only[wsG,gI,eqK,eqF,agn,e,e',decide_false,ih];simp only[afA,if_false,Option.map_map]
   congr 2
   funext i
   simp only[Function.comp]
   congr 2
   omega
theorem Xl(f:Pol.Fd):WdM f (wsG 0 f.words.l):=λw=>by
 have:=LZ w f.words.l 0;simp only[afu]at this;exact this
section
variable(n:Nat)(fdR:Rf->Pol.Fd)
def flG(k:Nat):List Rf->List (AV×AV)
 | []=>[]
 |r::l=>(r.av,je (k:Int) (fdR r) (.mp (n,5*k+14)))::flG (k+1) l
theorem Qq(r:Rf):∀(l:List Rf) (k:Nat),r∉l->uS (.st [.str,.str]) r.av (je ((k+l.length:Nat):Int) (fdR r) (.mp (n,5*(k+l.length)+14))) (flG n fdR k l)=some (flG n fdR k (l++[r]))
 | [],k,_=>by simp[flG,uS]
 |y::l,k,h=>by
  simp only[afp,not_or]at h;have ih:=Qq r l (k+1) h.2;rw[show k+1+l.length=k+(y::l).length by simp only[Io];omega]at ih;have hne:eqK (.st [.str,.str]) r.av y.av=some false:=by
   obtain⟨a,b⟩:=r;obtain⟨c,d⟩:=y;have:¬ (a=c∧b=d):=λq=>h.1 (by rw[q.1,q.2])
   simp only[eqK,dZ,eqF];by_cases e1:a=c
   ·have e2:¬ b=d:=λq=>this ⟨e1,q⟩
    simp[e2]
   ·simp[e1]
  simp only[flG,uS,hne,ih,afo]
theorem L1(r:Rf):∀(l:List Rf) (k:Nat),r∈l->gI (.st [.str,.str]) r.av (flG n fdR k l)=some (some (je ((k+(l.findIdx? λx=>decide (x=r)).getD 0:Nat):Int) (fdR r) (.mp (n,5*(k+(l.findIdx? λx=>decide (x=r)).getD 0)+14))))
 | [],k,h=>by cases h
 |y::l,k,h=>by
  by_cases e:y=r
  ·subst e;simp[flG,gI,eqK,dZ,eqF,agn]
  ·have hm:r∈l:=by
    rcases afp.1 h with q|q
    ·exact absurd q.symm e
    ·exact q
   have ih:=L1 r l (k+1) hm;have hne:eqK (.st [.str,.str]) r.av y.av=some false:=by
    obtain⟨a,b⟩:=r;obtain⟨c,d⟩:=y;have:¬ (a=c∧b=d):=λq=>e (by rw[q.1,q.2])
    simp only[eqK,dZ,eqF];by_cases e1:a=c
    ·have e2:¬ b=d:=λq=>this ⟨e1,q⟩
     simp[e2]
    ·simp[e1]
   obtain⟨i,hi⟩:∃i,(l.findIdx? λx=>decide (x=r))=some i:=by
    cases q:l.findIdx? λx=>decide (x=r) with
    |none=>
     rw[List.findIdx?_eq_none_iff]at q;have:=q r hm;simp at this
    |some i=>exact⟨i,rfl⟩
   rw[hi]at ih;simp only[flG,gI,hne,ih,agn,e,decide_false,afA,if_false,hi,af7,agj];rw[show k+1+i=k+(i+1) by omega]
end
theorem Ib(a4 a5 a6 a7 a8 a9 a15 a16 a77 a78 a79:AV)(nl:Bool)(ws:List Bs)(hk:ws.length<=1000)(hd:ws.Nodup)(b15 b16 b17:Blk)(c0 c1 c2 c3 c4 c5:AV)(T:List Blk)(h:Heap) :
  ∀(s j4:List Bs),ws=j4++s->∃j3,
   (mu K5).code (.af (T.length+5) [4,5,6,7,8,9,15,16,18,77,78,79,95,96,97] DT) ⟨[(4,a4),(5,a5),(6,a6),(7,a7),(8,a8),(9,a9),(15,a15),(16,a16),(18,.ptr (h.length,T.length+4) 0),(77,a77),(78,a78),(79,a79),(95,(⟨nl,ws⟩:Sl Bs).avS .str),(96,iV (ws.length:Int)),(97,iV (j4.length:Int))],
    (T++[b15,b16,b17,.map (wsG 0 j4),.box 102 false (.agg [c0,c1,c2,c3,c4,c5,.mp (h.length,T.length+3)])])::h⟩ =
   some (.exit 4,⟨j3,(T++[b15,b16,b17,.map (wsG 0 ws),.box 102 false (.agg [c0,c1,c2,c3,c4,c5,.mp (h.length,T.length+3)])])::h⟩) ∧
   get j3 4=a4∧get j3 5=a5∧get j3 6=a6∧get j3 7=a7∧get j3 8=a8∧get j3 9=a9∧get j3 15=a15∧get j3 16=a16∧get j3 18=.ptr (h.length,T.length+4) 0∧get j3 77=a77∧get j3 78=a78∧get j3 79=a79
 | [],j4,e=>by
  rw[afz]at e;subst e;rw[aj];generalize (mu K5).code (.af (T.length+5) [4,5,6,7,8,9,15,16,18,77,78,79,95,96,97] DT)=F;simp[DT]
 |w::s,j4,e=>by
  obtain⟨j3,ih,x⟩:=Ib a4 a5 a6 a7 a8 a9 a15 a16 a77 a78 a79 nl ws hk hd b15 b16 b17 c0 c1 c2 c3 c4 c5 T h s (j4++[w]) (by simp[e]);refine⟨j3,?_,x⟩;rw[<-ih];have hl:ws.length=j4.length+(s.length+1):=by rw[e];simp
  have c1:(j4.length<ws.length)=True:=eq_true (by omega);have hn:w∉j4:=λhm=>by
   rw[e,aga]at hd;exact hd.2.2 w hm w (by simp) rfl
  have hu:=Qp w j4 0 hn;simp only[afu]at hu;have w2:=wrS (n:=j4.length) (by omega);have hia:=λ(q:IntKind)=>cK (av:=AV.str) (sz:=1) (s:=⟨nl,ws⟩) (k:=q) (j:=(j4.length:Int)) (x:=w) (by omega) (by rw[e];simp) rfl
  rw[aj];generalize (mu K5).code (.af (T.length+5) [4,5,6,7,8,9,15,16,18,77,78,79,95,96,97] DT)=F at *
  simp only[afr,Io,iO,afu];rw[show ((j4.length+1:Nat):Int)=(j4.length:Int)+1 by omega];simp[DT,c1,hia,w2,hu,eqK,eqF]
def pcB:List Pc->Blk
 | []=>.arr 0 0 false []
 |x::r=>.arr 47 2 false ((x::r).map Pc.av)
theorem pO(l:List Pc):∃t z,pcB l=.arr t z false (l.map Pc.av)∧(z=0∨t=47∧z=2):=by
 cases l with
 |nil=>exact⟨0,0,rfl,.inl rfl⟩
 |cons i s=>exact⟨47,2,rfl,.inr ⟨rfl,rfl⟩⟩
theorem Ic(l:List Pc)(x:Pc):pcB (l++[x])=.arr 47 2 false (l.map Pc.av++[x.av]):=by
 cases l with
 |nil=>rfl
 |cons j s=>simp[pcB]
abbrev fnd(n:Nat):AV:=.fn (.func 37) [] [.ptr (n,0) 0,.ptr (n,1) 0]
abbrev OfF(p:Po)(l:Sl Sc)(q:Po)(nodes:Sl Nd)(es:List (AV×AV))(D C:List Pc)(A S:List Pt)(n:Nat):List Blk:=
 [.box 26 false p.av,.box 27 false (l.avS Sc.av),.box 36 false (.agg [.ay,.ay,.ay,.ay,.ay]),.box 37 false (iV 0),.box 26 false q.av,.map es,pcB D,pcB C,ptB A,ptB S,
  mkB nodes (n,5) (.own (n,6) D.length) (.own (n,7) C.length) (n,8) (n,9) A.length S.length]
section
variable(p:Po)(hp:Sz p)(l:Sl Sc)(hl:okL l)(hr:bz p l.l=0)(q:Po)(nodes:Sl Nd)(h:Heap)(a7:AV)(p7:a7.pure=true)
include hp hl hr p7
theorem Ie(hv:∀r∈p.az.l,(findF p.uses.l l.l r).isSome=true)(hs:p.az.l.length<=1000):∀(s j4:List Rf),p.az.l=j4++s->∃j3,
  (mu K5).code (.af 11 [4,5,6,7,8,9,51,52,53] DR) ⟨[(4,.ptr (h.length,2) 0),(5,.ptr (h.length,3) 0),(6,.ptr (h.length,4) 0),(7,a7),(8,.ptr (h.length,10) 0),(9,fnd h.length),(51,p.az.avS Rf.av),(52,iV (p.az.l.length:Int)),(53,iV (j4.length:Int))],OfF p l q nodes [] (j4.map (pcR p.uses.l l.l)) [] [] [] h.length::h⟩ =
   some (.exit 0,⟨j3,OfF p l q nodes [] (p.az.l.map (pcR p.uses.l l.l)) [] [] [] h.length::h⟩) ∧
   get j3 4=.ptr (h.length,2) 0∧get j3 5=.ptr (h.length,3) 0∧get j3 6=.ptr (h.length,4) 0∧get j3 7=a7∧get j3 8=.ptr (h.length,10) 0∧get j3 9=fnd h.length
 | [],j4,hh=>by
  rw[afz]at hh;rw[aj];generalize (mu K5).code _=F;rw[hh];simp[DR]
 |r::s,j4,hh=>by
  obtain⟨j3,ih,x⟩:=Ie hv hs s (j4++[r]) (by simp[hh]);refine⟨j3,?_,x⟩;rw[<-ih];have hlen:p.az.l.length=j4.length+(s.length+1):=by rw[hh];simp
  have c1:(j4.length<p.az.l.length)=True:=eq_true (by omega);have w2:=wrS (n:=j4.length) (by omega);have hia:=λ(k:IntKind)=>cK (av:=Rf.av) (sz:=2) (s:=p.az) (k:=k) (j:=(j4.length:Int)) (x:=r) (by omega) (by rw[hh];simp) rfl
  obtain⟨⟨u,k,f⟩,hf⟩:=agN.1 (hv r (by rw[hh];simp));have k37:=λH ha ha'=>JE (f37 p hp l hl r u k f hr hf H (h.length,0) (h.length,1) ha ha')
  rw[afE,afj,afw];have hlp:(j4.map (pcR p.uses.l l.l)).length=j4.length:=by simp
  generalize hD:j4.map (pcR p.uses.l l.l)=D at *
  generalize pcR p.uses.l l.l r=pc at *
  obtain⟨ot,oz,ho,hz⟩:=pO D;have r1:(D.length+1)*16<=room:=by unfold room;omega
  have r2:D.length+1<=room:=by unfold room;omega
  have hs2:=Ic D pc;have q7:=eJ a7 p7;have qw:=ak _ bD f.words;simp only[OfF,hs2,mkB,afr,Io,iO,afu];rw[ho,show ((j4.length+1:Nat):Int)=(j4.length:Int)+1 by omega];rw[aj];generalize (mu K5).code (.af _ _ DR)=F at *
  simp[DR,KL5,aa,c1,hia,w2,k37,r1,r2,hz,gD,pcB,q7]
end
def gX(us:List Us)(l:List Sc)(r:Rf):Pol.Fd:=match findF us l r with
 |none=>zFd
 |some (_,_,f)=>f
theorem L3(us:List Us)(l:List Sc)(n:Nd):au us l n=gX us l ⟨n.nm,n.attr⟩:=rfl
def RR(n:Nat)(us:List Us)(l:List Sc)(k:Nat):List Rf->List Blk
 | []=>[]
 |r::s=>.box 54 false r.av::.box 47 false (pcR us l r).av::.box 50 false (gX us l r).av::.map (wsG 0 (gX us l r).words.l)::.box 102 false (je (k:Int) (gX us l r) (.mp (n,5*k+14)))::RR n us l (k+1) s
theorem L4(n:Nat)(us:List Us)(l:List Sc)(r:Rf):∀(s:List Rf) (k:Nat),RR n us l k (s++[r])=RR n us l k s++[.box 54 false r.av,.box 47 false (pcR us l r).av,.box 50 false (gX us l r).av,.map (wsG 0 (gX us l r).words.l),.box 102 false (je ((k+s.length:Nat):Int) (gX us l r) (.mp (n,5*(k+s.length)+14)))]
 | [],k=>by simp[RR]
 |x::s,k=>by
  have ih:=L4 n us l r s (k+1);rw[show k+1+s.length=k+(x::s).length by simp only[Io];omega]at ih;simp only[afo,RR,ih]
theorem Qr(n:Nat)(us:List Us)(l:List Sc):∀(s:List Rf) (k:Nat),(RR n us l k s).length=5*s.length
 | [],k=>rfl
 |x::s,k=>by simp only[RR,Io,Qr n us l s];omega
theorem Ig(n:Nat)(F:Rf->Pol.Fd)(r:Rf):∀(s:List Rf) (k:Nat),flG n F k (s++[r])=flG n F k s++[(r.av,je ((k+s.length:Nat):Int) (F r) (.mp (n,5*(k+s.length)+14)))]
 | [],k=>by simp[flG]
 |x::s,k=>by
  have ih:=Ig n F r s (k+1);rw[show k+1+s.length=k+(x::s).length by simp only[Io];omega]at ih;simp only[afo,flG,ih]
theorem TN{p:Po}{l:List Sc}(hr:bz p l=0)(r:Rf)(hs:(findF p.uses.l l r).isSome=true):FdW (gX p.uses.l l r)∧(gX p.uses.l l r).words.l.Nodup:=by
 have e:=L3 p.uses.l l ⟨9,0,r.al,r.attr,⟨true,[]⟩,0⟩;refine⟨by have:=sF hr p.uses.l ⟨9,0,r.al,r.attr,⟨true,[]⟩,0⟩;rw[e]at this;exact this,?_⟩;obtain⟨⟨u,k,f⟩,hf⟩:=agN.1 hs;have:gX p.uses.l l r=f:=by unfold gX;rw[hf]
 rw[this];obtain⟨x,s,_,_,a3,a4,_⟩:=Ih hf;have h1:=(CF (ve (rI hr).2.1 s (Cf a3).1)).2 f (afB a4);unfold bN at h1;split at h1
 ·split at h1
  ·exact absurd h1 (by decide)
  ·rename_i q;have:f.words.l=[]:=by simpa using q
   rw[this];exact List.nodup_nil
 ·split at h1
  ·split at h1
   ·exact absurd h1 (by decide)
   ·unfold nG at h1;split at h1
    ·exact absurd h1 (by decide)
    ·have key:∀(ws met:List Bs),nH met ws=0->met.Nodup->(met++ws).Nodup:=by
      intro ws
      induction ws with
      |nil=>intro met _ h;simpa using h
      |cons w ws ih=>
       intro met hw hm;simp only[nH]at hw;split at hw
       ·exact absurd hw (by decide)
       split at hw
       ·exact absurd hw (by decide)
       ·rename_i q;have:=ih (met++[w]) hw (by
         rw[aga];exact⟨hm,by simp,λa ha b hb=>by
          rw[afO.1 hb];rintro rfl;exact q ha⟩)
        simpa using this
     simpa using key f.words.l [] h1 List.nodup_nil
  ·exact absurd h1 (by decide)
section
variable(p:Po)(hp:Sz p)(l:Sl Sc)(hl:okL l)(hr:bz p l.l=0)(q:Po)(nodes:Sl Nd)(h:Heap)(a7:AV)(p7:a7.pure=true)(D:List Pc)
include hp hl hr p7
theorem TP(j0 j4 s:List Rf)(r:Rf)(hh:j0=j4++r::s)(hd:j0.Nodup)(hv:(findF p.uses.l l.l r).isSome=true)(hs:j0.length<=1000) :
  (mu K5).code (.af 11 [4,5,6,7,8,9,77,78,79] zF) ⟨[(4,.ptr (h.length,2) 0),(5,.ptr (h.length,3) 0),(6,.ptr (h.length,4) 0),(7,a7),(8,.ptr (h.length,10) 0),(9,fnd h.length),(77,.lst (j0.map Rf.av)),(78,iV (j0.length:Int)),(79,iV (j4.length:Int))],(OfF p l q nodes (flG h.length (gX p.uses.l l.l) 0 j4) D (j4.map (pcR p.uses.l l.l)) [] [] h.length++RR h.length p.uses.l l.l 0 j4)::h⟩ =
  (mu K5).code (.af 11 [4,5,6,7,8,9,77,78,79] zF) ⟨[(4,.ptr (h.length,2) 0),(5,.ptr (h.length,3) 0),(6,.ptr (h.length,4) 0),(7,a7),(8,.ptr (h.length,10) 0),(9,fnd h.length),(77,.lst (j0.map Rf.av)),(78,iV (j0.length:Int)),(79,iV ((j4++[r]).length:Int))],(OfF p l q nodes (flG h.length (gX p.uses.l l.l) 0 (j4++[r])) D ((j4++[r]).map (pcR p.uses.l l.l)) [] [] h.length++RR h.length p.uses.l l.l 0 (j4++[r]))::h⟩:=by
 have hlen:j0.length=j4.length+(s.length+1):=by rw[hh];simp
 have c1:(j4.length<j0.length)=True:=eq_true (by omega);have w2:=wrS (n:=j4.length) (by omega);have hia:∀(k:IntKind),iaF 2 (.lst (j0.map Rf.av)) (.int k (j4.length:Int))=some (.eF r.av 0):=λk=>cG (by omega) (by rw[hh];simp) rfl
 obtain⟨hw1,hw2⟩:=TN hr r hv;obtain⟨⟨u,k,f⟩,hf⟩:=agN.1 hv;have ef:gX p.uses.l l.l r=f:=by unfold gX;rw[hf]
 have k37:=λH ha ha'=>JE (f37 p hp l hl r u k f hr hf H (h.length,0) (h.length,1) ha ha')
 have hn:r∉j4:=λhm=>by
  rw[hh,aga]at hd;exact hd.2.2 r hm r (by simp) rfl
 have hu:=Qq h.length (gX p.uses.l l.l) r j4 0 hn;rw[Ig]at hu⊢;rw[L4,afE,afj,afw];have rl:=Qr h.length p.uses.l l.l j4 0;have hlp:(j4.map (pcR p.uses.l l.l)).length=j4.length:=by simp
 rw[ef]at hw1 hw2 hu⊢;simp only[afu]at hu⊢;generalize hD:j4.map (pcR p.uses.l l.l)=C at *
 generalize pcR p.uses.l l.l r=pc at *
 generalize flG h.length (gX p.uses.l l.l) 0 j4=es at *
 generalize RR h.length p.uses.l l.l 0 j4=R at *
 obtain⟨ot,oz,ho,hz⟩:=pO C;have r1:(C.length+1)*16<=room:=by unfold room;omega
 have r2:C.length+1<=room:=by unfold room;omega
 have hs2:=Ic C pc;have q7:=eJ a7 p7;have qw:=ak _ bD f.words;have n1:5*j4.length+14=R.length+14:=by omega
 rw[n1]at hu⊢;simp only[OfF,hs2,mkB,afr,Io,iO,afu];rw[ho,show ((j4.length+1:Nat):Int)=(j4.length:Int)+1 by omega];obtain⟨j3,k1,x4,x5,x6,x7,x8,x9,x15,x16,x18,x77,x78,x79⟩:=Ib (.ptr (h.length,2) 0) (.ptr (h.length,3) 0) (.ptr (h.length,4) 0) a7 (.ptr (h.length,10) 0) (fnd h.length) (.ptr (h.length,R.length+11) 0) (.ptr (h.length,R.length+12) 0) (.lst (j0.map Rf.av)) (iV (j0.length:Int)) (iV (j4.length:Int))
  f.words.nl f.words.l (by have:=hw1.2.2.2.2;omega) hw2 (.box 54 false r.av) (.box 47 false pc.av) (.box 50 false f.av) (iV (j4.length:Int)) (.str f.name) (iV f.kind) (iV f.mn) (iV f.mx) (f.words.avS .str)
  (.box 26 false p.av::.box 27 false (l.avS Sc.av)::.box 36 false (.agg [.ay,.ay,.ay,.ay,.ay])::.box 37 false (iV 0)::.box 26 false q.av::.map es::pcB D::.arr ot oz false (C.map Pc.av)::ptB []::ptB [] ::
   .box 95 false (.agg [nodes.avS Nd.av,.mp (h.length,5),.own (h.length,6) D.length,.own (h.length,7) C.length,.own (h.length,8) 0,.ay,.own (h.length,9) 0])::R) h f.words.l [] rfl
 have ew:(⟨f.words.nl,f.words.l⟩:Sl Bs)=f.words:=rfl;have w0:wsG 0 []=[]:=rfl;rw[ew,w0]at k1;rw[aj];generalize (mu K5).code (.af _ _ zF)=F at *
 obtain⟨ot2,oz2,ho2,_⟩:=pO D;rw[ho2,gD]at k1;rw[ho2,gD];have n2:(R.length+14<11)=False:=eq_false (by omega);simp[af5]at k1;have ek:eqK (.st [.str,.str]) r.av r.av=some true:=by simp[eqK,dZ,eqF]
 simp[zF,KL5,aa,c1,hia,w2,k37,r1,r2,hz,q7,k1,x4,x5,x6,x7,x8,x9,x15,x16,x18,x77,x78,x79,af5,hu,ek,n2]
theorem Ii(j0:List Rf)(hd:j0.Nodup)(hv:∀r∈j0,(findF p.uses.l l.l r).isSome=true)(hs:j0.length<=1000):∀(s j4:List Rf),j0=j4++s->∃j3,
  (mu K5).code (.af 11 [4,5,6,7,8,9,77,78,79] zF) ⟨[(4,.ptr (h.length,2) 0),(5,.ptr (h.length,3) 0),(6,.ptr (h.length,4) 0),(7,a7),(8,.ptr (h.length,10) 0),(9,fnd h.length),(77,.lst (j0.map Rf.av)),(78,iV (j0.length:Int)),(79,iV (j4.length:Int))],(OfF p l q nodes (flG h.length (gX p.uses.l l.l) 0 j4) D (j4.map (pcR p.uses.l l.l)) [] [] h.length++RR h.length p.uses.l l.l 0 j4)::h⟩ =
   some (.exit 2,⟨j3,(OfF p l q nodes (flG h.length (gX p.uses.l l.l) 0 j0) D (j0.map (pcR p.uses.l l.l)) [] [] h.length++RR h.length p.uses.l l.l 0 j0)::h⟩) ∧
   get j3 4=.ptr (h.length,2) 0∧get j3 5=.ptr (h.length,3) 0∧get j3 6=.ptr (h.length,4) 0∧get j3 7=a7∧get j3 8=.ptr (h.length,10) 0
 | [],j4,hh=>by
  rw[afz]at hh;rw[aj];generalize (mu K5).code _=F;rw[hh];simp[zF]
 |r::s,j4,hh=>by
  obtain⟨j3,ih,x⟩:=Ii j0 hd hv hs s (j4++[r]) (by simp[hh]);refine⟨j3,?_,x⟩;rw[<-ih];exact TP p hp l hl hr q nodes h a7 p7 D j0 j4 s r hh hd (hv r (by rw[hh];simp)) hs
end
end Go.Ab.Pn
namespace Go.Ab.Pol
theorem Qs{f:Nd->Option VT}{ks:List Tr}{vs:List VT}(h:eT f ks=.inr vs):∀q∈ks,(f q.n).isSome=true:=λq hq=>by
 have:=nT h;have hm:f q.n∈ks.map (λt=>f t.n):=afG.2 ⟨q,hq,rfl⟩;rw[this]at hm;obtain⟨v,_,e⟩:=afG.1 hm;rw[<-e];rfl
theorem Ij{f:Nd->Option VT}{i:Nat}{n:Nd}{ks:List Tr}(hk:n.k=6∨n.k=7∨n.k=8)(h:(cR f (.nd i n ks)).2=0):∃vs,eT f ks=.inr vs∧eA n vs=0:=by
 simp only[cR]at h;rw[if_pos hk]at h;cases e:eT f ks with
 |inl k=>rw[e]at h;simp at h
 |inr vs=>
  rw[e]at h;simp only at h;by_cases c:eA n vs=0
  ·exact⟨vs,rfl,c⟩
  ·rw[if_neg c]at h;exact absurd h c
mutual
theorem CG{f:Nd->Option VT}{ns:List Nd}:∀(t:Tr) (c:Bool),IsT ns t->WF t c->(∀s∈t.subs,(cR f s).2=0)->(c=false->(f t.n).isSome=true)->∀s∈t.subs,s.n.k=9->(f s.n).isSome=true
 |.nd i n ks,c,ht,⟨w1,w2⟩,hc,hf,s,hs,hk=>by
  obtain⟨k0,k12,k8,Ay,_⟩:=fH w1;simp only[Tr.subs,afp]at hs;rcases hs with rfl|hs
  ·refine hf ?_;simp only[Tr.n]at hk;rw[hk]at k8;simpa using k8.symm
  ·have hlen:n.kids.l.length=ks.length:=by rw[ht.2.1];simp
   refine zZ ks _ ht.2.2 w2 (λs hs=>hc s (by simp[Tr.subs,hs])) (λh5 k hk=>?_) s hs hk;have h5:5<n.k:=by simpa using h5
   by_cases h8:n.k<=8
   ·obtain⟨vs,e1,_⟩:=Ij (f:=f) (i:=i) (n:=n) (ks:=ks) (by omega) (hc _ (by simp[Tr.subs]));exact Qs e1 k hk
   ·have h0:ks.length=0:=by
     rw[hlen]at Ay;have:n.k=9∨n.k=10∨n.k=11:=by omega
     rcases this with e|e|e<;>simpa[aI,e]using Ay
    have:=agO.1 h0;subst this;cases hk
theorem zZ{f:Nd->Option VT}{ns:List Nd}:∀(ts:List Tr) (c:Bool),nR ns ts->WFs ts c->(∀s∈Tr.bL ts,(cR f s).2=0)->(c=false->∀k∈ts,(f k.n).isSome=true)->∀s∈Tr.bL ts,s.n.k=9->(f s.n).isSome=true
 | [],_,_,_,_,_,s,hs,_=>by simp[Tr.bL]at hs
 |t::ts,c,ht,w,hc,hf,s,hs,hk=>by
  simp only[Tr.bL,afR]at hs;rcases hs with hs|hs
  ·exact CG t c ht.1 w.1 (λs hs=>hc s (by simp[Tr.bL,hs])) (λe=>hf e t (by simp)) s hs hk
  ·exact zZ ts c ht.2 w.2 (λs hs=>hc s (by simp[Tr.bL,hs])) (λe k hk=>hf e k (by simp[hk])) s hs hk
end
theorem NW{p:Po}{l:List Sc}{t:Tr}(g:Good p t)(hF:WD p l t){r:Rf}(hr:r∈cS p t):∃q,findF p.uses.l l r=some q:=by
 obtain⟨s,hs,hk,rfl⟩:=(HM g.isT).1 hr;have:=CG t true g.isT g.wf hF.conds (λe=>by cases e) s hs hk;unfold bS at this;rw[if_neg (by omega),if_neg (by omega)]at this;cases e:findF p.uses.l l ⟨s.n.nm,s.n.attr⟩ with
 |none=>rw[e]at this;simp at this
 |some q=>exact⟨q,rfl⟩
theorem Xm{p:Po}{l:List Sc}{t:Tr}{Q:Nd->Prop}{c:Cd}(h1:(iy p l t).2=0)(h2:chk (jF p c)=0)(hn:NFp p.uses.l l Q c) :
  NFp p.uses.l l (inR (cS (jF p c) (cu 0 c))) (cE c):=by
 have g2:=lZ h2;have ty:=F8 h1 h2 hn;have:=rJ (p:=jF p c) (l:=l) (t:=cu 0 c) (Q:=FX (jF p c) (cu 0 c)) g2 (by rw[ty]) (FY g2.isT) false;rw[show (jF p c).uses=p.uses from rfl,Ik hn]at this;exact this
theorem TQ{p:Po}{l:List Sc}{t:Tr}{Q:Nd->Prop}{c:Cd}(h1:(iy p l t).2=0)(h2:chk (jF p c)=0)(hn:NFp p.uses.l l Q c) :
  (cS (jF p c) (cu 0 c)).Nodup∧∀r∈cS (jF p c) (cu 0 c),(findF p.uses.l l r).isSome=true:=by
 have g2:=lZ h2;have ty:=F8 h1 h2 hn;refine⟨Il g2.isT,λr hr=>?_⟩;obtain⟨q,e⟩:=NW g2 (Ce (p:=jF p c) (l:=l) (by rw[ty])).1 hr;have e:findF p.uses.l l r=some q:=e;rw[e];rfl
end Go.Ab.Pol
namespace Go.Ab.Pn
open Go.Ab.Pol
theorem Qt:c12.body=(.seq GQ (.seq GR (.seq qj (.seq vF (.seq vG (.dfr 43 (.mkF (.func 36) [] [(.t 4),(.t 5)]) (.seq tR (.seq tS (.seq tT (.seq tU (.seq mV (.seq lB (.seq mW (.seq qI qJ)))))))))))))):=rfl
def Dz (K:Cfg) (rs:List jm):Option (Ex×St×Option (FuncId×List AV))->Option Out
 |some (.norm,s,none)=>finish rs s
 |some (.ret,s,none)=>finish rs s
 |some (.pan v,s,none)=>(match pop v s.h with
  |some (v',h')=>some (.pan v' h')
  |none=>none)
 |some (.norm,s,some (g,cap))=>wN K (mu K) rs g cap none s
 |some (.ret,s,some (g,cap))=>wN K (mu K) rs g cap none s
 |some (.pan v,s,some (g,cap))=>wN K (mu K) rs g cap (some v) s
 |_=>none
theorem abC{K:Cfg}{f:FuncId}{args:List AV}{h:Heap}{cf:aK}(hX:K.X f args h=none)(hc:K.fns f=some cf)(ha:args.length<=cf.nt) :
  (mu K).fn f args h=Dz K cf.res (evB K (mu K) cf.body { env:=cI 0 args,h:=[]::h }):=by
 rw[gp];simp only[step,iY,hX,hc,if_pos ha];cases evB K (mu K) cf.body { env:=cI 0 args,h:=[]::h } with
 |none=>rfl
 |some r=>
  obtain⟨ex,s,o⟩:=r;cases ex<;>cases o<;>rfl
theorem mg{K:Cfg}{O:Orc}{c:CC}{b:CB}{s s1:St}(e:evC K O c s=some (.norm,s1)):evB K O (.seq c b) s=evB K O b s1:=by simp only[evB,e]
theorem L5{K:Cfg}{O:Orc}{c:CC}{b:CB}{s s1:St}(e:evC K O c s=some (.ret,s1)):evB K O (.seq c b) s=some (.ret,s1,none):=by simp only[evB,e]
section
variable(p:Po)(hp:Sz p)(l:Sl Sc)(hl:okL l)(h:Heap)
include hp hl
abbrev OfP(p:Po)(l:Sl Sc)(e:Int)(q:Po):List Blk:=[.box 26 false p.av,.box 27 false (l.avS Sc.av),.box 36 false (.agg [.ay,.ay,.ay,.ay,.ay]),.box 37 false (iV e),.box 26 false q.av]
theorem Xn(q:Po)(e:Int)(k15:∀h,(mu K5).fn 15 [p.av,l.avS Sc.av] h=some (.val (.tup [q.av,iV e]) h))(b:CB):∃j3,
  evB K5 (mu K5) (.seq GQ (.seq GR b)) ⟨cI 0 [p.av,l.avS Sc.av],[]::h⟩=evB K5 (mu K5) b ⟨j3,OfP p l e q::h⟩ ∧
   get j3 2=.ptr (h.length,0) 0∧get j3 3=.ptr (h.length,1) 0∧get j3 4=.ptr (h.length,2) 0∧get j3 5=.ptr (h.length,3) 0∧get j3 6=.ptr (h.length,4) 0:=by
 have e0:∃j3,evC K5 (mu K5) GQ ⟨cI 0 [p.av,l.avS Sc.av],[]::h⟩=some (.norm,⟨j3,[.box 26 false p.av,.box 27 false (l.avS Sc.av),.box 36 false (.agg [.ay,.ay,.ay,.ay,.ay]),.box 37 false (iV 0)]::h⟩) ∧
   get j3 2=.ptr (h.length,0) 0∧get j3 3=.ptr (h.length,1) 0∧get j3 4=.ptr (h.length,2) 0∧get j3 5=.ptr (h.length,3) 0:=by
  simp[GQ]
 obtain⟨JG,k0,x2,x3,x4,x5⟩:=e0;have e1:∃j3,evC K5 (mu K5) GR ⟨JG,[.box 26 false p.av,.box 27 false (l.avS Sc.av),.box 36 false (.agg [.ay,.ay,.ay,.ay,.ay]),.box 37 false (iV 0)]::h⟩=some (.norm,⟨j3,OfP p l e q::h⟩) ∧
   get j3 2=.ptr (h.length,0) 0∧get j3 3=.ptr (h.length,1) 0∧get j3 4=.ptr (h.length,2) 0∧get j3 5=.ptr (h.length,3) 0∧get j3 6=.ptr (h.length,4) 0:=by
  simp[GR,KL5,aa,x2,x3,x4,x5,k15,OfP]
 obtain⟨iZ,k1,r⟩:=e1;exact⟨iZ,by rw[mg k0,mg k1],r⟩
end
theorem JZ:zPl.av=.agg [.ay,.ay,.ay,.ay,.ay]:=rfl
def E12(j3:Env)(n:Nat):Prop:=get j3 2=.ptr (n,0) 0∧get j3 3=.ptr (n,1) 0∧get j3 4=.ptr (n,2) 0∧get j3 5=.ptr (n,3) 0∧get j3 6=.ptr (n,4) 0
section
variable(p:Po)(l:Sl Sc)(h:Heap)
theorem TR(q:Po)(e:Int)(he:e≠0)(j3:Env)(hE:E12 j3 h.length)(b:CB):Dz K5 c12.res (evB K5 (mu K5) (.seq qj b) ⟨j3,OfP p l e q::h⟩)=some (.val (.tup [zPl.av,iV e]) h):=by
 obtain⟨x2,x3,x4,x5,x6⟩:=hE;have k:∃j3',evC K5 (mu K5) qj ⟨j3,OfP p l e q::h⟩=some (.ret,⟨j3',OfP p l e q::h⟩)∧get j3' 4=.ptr (h.length,2) 0∧get j3' 5=.ptr (h.length,3) 0:=by
  simp[qj,OfP,x4,x5,he]
 obtain⟨j3',k1,k4,k5⟩:=k;rw[L5 k1,JZ];simp[Dz,c12,k4,k5,OfP]
theorem NY(q:Po)(x:Nd)(hx:q.nodes.l[0]?=some x)(hr:q.root=0)(hk:x.k=1)(j3:Env)(hE:E12 j3 h.length)(b:CB):Dz K5 c12.res (evB K5 (mu K5) (.seq qj (.seq vF (.seq vG b))) ⟨j3,OfP p l 0 q::h⟩)=some (.val (.tup [zPl.av,iV 18]) h):=by
 obtain⟨x2,x3,x4,x5,x6⟩:=hE;have k:evC K5 (mu K5) qj ⟨j3,OfP p l 0 q::h⟩=some (.norm,⟨(30,.bool false)::(29,iV 0)::j3,OfP p l 0 q::h⟩):=by
  simp[qj,OfP,x5]
 have hia:=λ(k:IntKind)=>cK (av:=Nd.av) (sz:=6) (s:=q.nodes) (k:=k) (j:=0) (x:=x) (by omega) (by simpa using hx) rfl
 have k2:∃j3',evC K5 (mu K5) vF ⟨(30,.bool false)::(29,iV 0)::j3,OfP p l 0 q::h⟩=some (.norm,⟨j3',OfP p l 0 q::h⟩)∧get j3' 4=.ptr (h.length,2) 0∧get j3' 5=.ptr (h.length,3) 0∧get j3' 7=iV 1:=by
  simp[vF,OfP,x4,x5,x6,hr,hia,hk]
 obtain⟨j3',k2,y4,y5,y7⟩:=k2;have k3:∃tL,evC K5 (mu K5) vG ⟨j3',OfP p l 0 q::h⟩=some (.ret,⟨tL,OfP p l 18 q::h⟩)∧get tL 4=.ptr (h.length,2) 0∧get tL 5=.ptr (h.length,3) 0:=by
  simp[vG,OfP,y4,y5,y7]
 obtain⟨tL,k3,z4,z5⟩:=k3;rw[mg k,mg k2,L5 k3,JZ];simp[Dz,c12,z4,z5,OfP]
theorem Xo(q:Po)(x:Nd)(hx:q.nodes.l[0]?=some x)(hr:q.root=0)(hk:x.k≠1)(j3:Env)(hE:E12 j3 h.length)(b:CB):∃j3',evB K5 (mu K5) (.seq qj (.seq vF (.seq vG b))) ⟨j3,OfP p l 0 q::h⟩=evB K5 (mu K5) b ⟨j3',OfP p l 0 q::h⟩ ∧
  E12 j3' h.length∧get j3' 7=iV x.k:=by
 obtain⟨x2,x3,x4,x5,x6⟩:=hE;have k:evC K5 (mu K5) qj ⟨j3,OfP p l 0 q::h⟩=some (.norm,⟨(30,.bool false)::(29,iV 0)::j3,OfP p l 0 q::h⟩):=by
  simp[qj,OfP,x5]
 have hia:=λ(k:IntKind)=>cK (av:=Nd.av) (sz:=6) (s:=q.nodes) (k:=k) (j:=0) (x:=x) (by omega) (by simpa using hx) rfl
 have k2:∃j3',evC K5 (mu K5) vF ⟨(30,.bool false)::(29,iV 0)::j3,OfP p l 0 q::h⟩=some (.norm,⟨j3',OfP p l 0 q::h⟩)∧E12 j3' h.length∧get j3' 7=iV x.k:=by
  simp[vF,E12,OfP,x2,x3,x4,x5,x6,hr,hia]
 obtain⟨j3',k2,⟨y2,y3,y4,y5,y6⟩,y7⟩:=k2;have k3:∃tL,evC K5 (mu K5) vG ⟨j3',OfP p l 0 q::h⟩=some (.norm,⟨tL,OfP p l 0 q::h⟩)∧E12 tL h.length∧get tL 7=iV x.k:=by
  simp[vG,E12,OfP,y2,y3,y4,y5,y6,y7,hk]
 obtain⟨tL,k3,r⟩:=k3;exact⟨tL,by rw[mg k,mg k2,mg k3],r⟩
def F12(j3:Env)(n:Nat)(k:Int):Prop:=get j3 2=.ptr (n,0) 0∧get j3 3=.ptr (n,1) 0∧get j3 4=.ptr (n,2) 0∧get j3 5=.ptr (n,3) 0∧get j3 6=.ptr (n,4) 0∧get j3 7=iV k∧get j3 8=.ptr (n,10) 0∧get j3 9=fnd n
theorem TS(q:Po)(k:Int)(j3:Env)(hE:E12 j3 h.length)(h7:get j3 7=iV k):∃j3',evC K5 (mu K5) (.seq tR tS) ⟨j3,OfP p l 0 q::h⟩=some (.norm,⟨j3',OfF p l q q.nodes [] [] [] [] [] h.length::h⟩)∧F12 j3' h.length k:=by
 obtain⟨x2,x3,x4,x5,x6⟩:=hE;simp[tR,tS,F12,OfP,OfF,x2,x3,x4,x5,x6,h7,xW,tM,xX,mkB,pcB,gD]
theorem Qu(hp:Sz p)(hl:okL l)(hr:bz p l.l=0)(hv:∀r∈p.az.l,(findF p.uses.l l.l r).isSome=true)(hs:p.az.l.length<=1000)(q:Po)(k:Int)(j3:Env)(hE:F12 j3 h.length k) :
  ∃j3',evC K5 (mu K5) tT ⟨j3,OfF p l q q.nodes [] [] [] [] [] h.length::h⟩=some (.norm,⟨j3',OfF p l q q.nodes [] (p.az.l.map (pcR p.uses.l l.l)) [] [] [] h.length::h⟩) ∧
   get j3' 4=.ptr (h.length,2) 0∧get j3' 5=.ptr (h.length,3) 0∧get j3' 6=.ptr (h.length,4) 0∧get j3' 7=iV k∧get j3' 8=.ptr (h.length,10) 0∧get j3' 9=fnd h.length:=by
 obtain⟨x2,x3,x4,x5,x6,x7,x8,x9⟩:=hE;obtain⟨jA,k2,r⟩:=Ie p hp l hl hr q q.nodes h (iV k) rfl hv hs p.az.l [] rfl;obtain⟨y4,y5,y6,y7,y8,y9⟩:=r;generalize hX:OfF p l q q.nodes [] (p.az.l.map (pcR p.uses.l l.l)) [] [] [] h.length=X at k2⊢;simp only[OfF,afw]at k2⊢;simp at k2;simp[tT,x2,x4,x5,x6,x7,x8,x9,k2,y4,y5,y6,y7,y8,y9]
end
theorem Qv(n:Nat)(us:List Us)(l:List Sc):∀(s:List Rf) (k i:Nat) (r:Rf),s[i]?=some r->(RR n us l k s)[5*i+3]?=some (.map (wsG 0 (gX us l r).words.l))
 | [],_,_,_,h=>by simp at h
 |x::s,k,0,r,h=>by
  simp only[ago,fS]at h;subst h;simp[RR]
 |x::s,k,i+1,r,h=>by
  simp only[agM]at h;have:=Qv n us l s (k+1) i r h;rw[show 5*(i+1)+3=5*i+3+5 by omega];simpa[RR]using this
section
variable(p:Po)(l:Sl Sc)(q:Po)(nodes:Sl Nd)(h:Heap)(D C:List Pc)(R:List Blk)(es:List (AV×AV))
theorem Im(A S:List Pt):bG nodes ((OfF p l q nodes es D C [] [] h.length++R)::h) (h.length,10) (h.length,5) (h.length,8) (h.length,9) (.own (h.length,6) D.length) (.own (h.length,7) C.length) A S=(OfF p l q nodes es D C A S h.length++R)::h:=by
 simp[bG,OfF,aQ]
end
theorem TU(p:Po)(l:Sl Sc)(q:Po)(nodes:Sl Nd)(h:Heap)(D C:List Pc)(us:List Us)(j0:List Rf)(hf:∀n,FdW (au us l.l n))(hl:nodes.l.length<=1000) :
  Pls nodes (au us l.l) j0 (inR j0) ((OfF p l q nodes (flG h.length (gX us l.l) 0 j0) D C [] [] h.length++RR h.length us l.l 0 j0)::h) (h.length,10) (h.length,5) (h.length,8) (h.length,9):=by
 refine⟨hf,hl,by simp[dom,hget],by simp[dom,hget],by simp[dom,hget],by simp,by simp,by simp,afm _,afm _,flG h.length (gX us l.l) 0 j0,by simp[hget],by simp,by simp,by simp,λx hx=>?_⟩;have h1:=L1 h.length (gX us l.l) ⟨x.nm,x.attr⟩ j0 0 hx;simp only[afu]at h1;have h2:=Xp hx;refine⟨(h.length,5*ixR j0 x+14),wsG 0 (au us l.l x).words.l,?_,by simp,by simp,by simp,Xl _,h1⟩;have:=Qv h.length us l.l j0 0 _ _ h2;simp only[hget,if_true];rw[show 5*ixR j0 x+14=(5*ixR j0 x+3)+11 by omega];rw[L3];simpa[OfF]using this
section
variable(p:Po)(hp:Sz p)(l:Sl Sc)(hl:okL l)(hr:bz p l.l=0)(q:Po)(h:Heap)(D:List Pc)
include hp hl hr
theorem Qw(hq:Sz q)(hc:chk q=0)(t:Tr)(g:Pol.Good q t)(hd:(cS q t).Nodup)(hv:∀r∈cS q t,(findF p.uses.l l.l r).isSome=true)(hs:(cS q t).length<=1000)(k:Int)(j3:Env)
  (x4:get j3 4=.ptr (h.length,2) 0) (x5:get j3 5=.ptr (h.length,3) 0) (x6:get j3 6=.ptr (h.length,4) 0) (x7:get j3 7=iV k) (x8:get j3 8=.ptr (h.length,10) 0) (x9:get j3 9=fnd h.length) :
  ∃j3',evC K5 (mu K5) tU ⟨j3,OfF p l q q.nodes [] D [] [] [] h.length::h⟩=some (.norm,⟨j3',(OfF p l q q.nodes (flG h.length (gX p.uses.l l.l) 0 (cS q t)) D ((cS q t).map (pcR p.uses.l l.l)) [] [] h.length++RR h.length p.uses.l l.l 0 (cS q t))::h⟩) ∧
   get j3' 4=.ptr (h.length,2) 0∧get j3' 5=.ptr (h.length,3) 0∧get j3' 6=.ptr (h.length,4) 0∧get j3' 7=iV k∧get j3' 8=.ptr (h.length,10) 0:=by
 have k16:=λh=>aeA q hq hc t g h
 generalize cS q t=j0 at *
 obtain⟨jA,k2,y4,y5,y6,y7,y8⟩:=Ii p hp l hl hr q q.nodes h (iV k) rfl D j0 hd hv hs j0 [] rfl;generalize hX:OfF p l q q.nodes (flG h.length (gX p.uses.l l.l) 0 j0) D (j0.map (pcR p.uses.l l.l)) [] [] h.length++RR h.length p.uses.l l.l 0 j0=X at k2⊢;have e1:flG h.length (gX p.uses.l l.l) 0 []=[]:=rfl;have e2:RR h.length p.uses.l l.l 0 []=[]:=rfl;rw[e1,e2]at k2;simp only[OfF,afw,afz]at k2⊢;simp at k2;simp[tU,KL5,aa,x4,x5,x6,x7,x8,x9,k16,k2,y4,y5,y6,y7,y8]
end
def mkG(nodes:Sl Nd)(n:Nat)(dn cn an sn:Nat)(G:AV):Blk:=.box 95 false (.agg [nodes.avS Nd.av,.mp (n,5),.own (n,6) dn,.own (n,7) cn,.own (n,8) an,G,.own (n,9) sn])
abbrev OfG(p:Po)(l:Sl Sc)(z:AV)(e:Int)(q:Po)(nodes:Sl Nd)(es:List (AV×AV))(D C:List Pc)(A S:List Pt)(G:AV)(n:Nat):List Blk:=
 [.box 26 false p.av,.box 27 false (l.avS Sc.av),.box 36 false z,.box 37 false (iV e),.box 26 false q.av,.map es,pcB D,pcB C,ptB A,ptB S,mkG nodes n D.length C.length A.length S.length G]
theorem Ip(F:Option Fm):oA F=.agg [(bf F).avS Gt.av]:=by
 cases F with
 |none=>rfl
 |some f=>exact JW f
section
variable(p:Po)(l:Sl Sc)(q:Po)(h:Heap)(D C:List Pc)(R:List Blk)(es:List (AV×AV))
theorem TV(hq0:q.root=0)(k:Int)(hk:k≠0)(F:Option Fm)(A S:List Pt)(j3:Env)
  (x4:get j3 4=.ptr (h.length,2) 0) (x5:get j3 5=.ptr (h.length,3) 0) (x6:get j3 6=.ptr (h.length,4) 0) (x7:get j3 7=iV k) (x8:get j3 8=.ptr (h.length,10) 0)
  (k39:(mu K5).fn 39 [.ptr (h.length,10) 0,iV 0] ((OfF p l q q.nodes es D C [] [] h.length++R)::h)=some (.val (oA F) ((OfF p l q q.nodes es D C A S h.length++R)::h))) :
  ∃j3',evC K5 (mu K5) mV ⟨j3,(OfF p l q q.nodes es D C [] [] h.length++R)::h⟩=some (.norm,⟨j3',(OfG p l (.agg [.ay,.ay,.ay,.ay,.ay]) 0 q q.nodes es D C A S ((bf F).avS Gt.av) h.length++R)::h⟩) ∧
   get j3' 4=.ptr (h.length,2) 0∧get j3' 5=.ptr (h.length,3) 0∧get j3' 8=.ptr (h.length,10) 0:=by
 rw[Ip]at k39;have gc:((bf F).avS Gt.av).isAgg=false:=sV _ _;have gd:((bf F).avS Gt.av).cells=[(bf F).avS Gt.av]:=sW _ _;have ge:∀f,((bf F).avS Gt.av).aO f=true:=λf=>oh f _ _
 generalize (bf F).avS Gt.av=G at *
 obtain⟨t1,z1,h1,_⟩:=pO D;obtain⟨t2,z2,h2,_⟩:=pO C;obtain⟨t3,z3,h3,_⟩:=jD A;obtain⟨t4,z4,h4,_⟩:=jD S;simp only[OfF,OfG,mkB,mkG,h1,h2,h3,h4,iO,gD]at k39⊢;simp at k39;simp[mV,KL5,aa,x4,x5,x6,x7,x8,hk,hq0,k39,ge]
theorem NZ(j3:Env)
  (x4:get j3 4=.ptr (h.length,2) 0) (x5:get j3 5=.ptr (h.length,3) 0) (x7:get j3 7=iV 0) (x8:get j3 8=.ptr (h.length,10) 0) :
  ∃j3',evC K5 (mu K5) mV ⟨j3,(OfF p l q q.nodes es D C [] [] h.length++R)::h⟩=some (.norm,⟨j3',(OfG p l (.agg [.ay,.ay,.ay,.ay,.ay]) 0 q q.nodes es D C [] [] ((bf none).avS Gt.av) h.length++R)::h⟩) ∧
   get j3' 4=.ptr (h.length,2) 0∧get j3' 5=.ptr (h.length,3) 0∧get j3' 8=.ptr (h.length,10) 0:=by
 have e:(bf none).avS Gt.av=.ay:=rfl;rw[e];simp[mV,x4,x5,x7,x8,OfF,OfG,mkB,mkG]
theorem Qx(A S:List Pt)(G:AV)(j3:Env)(x4:get j3 4=.ptr (h.length,2) 0)(x5:get j3 5=.ptr (h.length,3) 0)(x8:get j3 8=.ptr (h.length,10) 0)(hA:A.length<=100000)(hS:S.length<=100000) :
  ((256<A.length∨64<S.length)->∃j3',evC K5 (mu K5) lB ⟨j3,(OfG p l (.agg [.ay,.ay,.ay,.ay,.ay]) 0 q q.nodes es D C A S G h.length++R)::h⟩=some (.ret,⟨j3',(OfG p l (.agg [.ay,.ay,.ay,.ay,.ay]) 6 q q.nodes es D C A S G h.length++R)::h⟩) ∧
   get j3' 4=.ptr (h.length,2) 0∧get j3' 5=.ptr (h.length,3) 0) ∧
  (¬ (256<A.length∨64<S.length)->∃j3',evC K5 (mu K5) lB ⟨j3,(OfG p l (.agg [.ay,.ay,.ay,.ay,.ay]) 0 q q.nodes es D C A S G h.length++R)::h⟩=some (.norm,⟨j3',(OfG p l (.agg [.ay,.ay,.ay,.ay,.ay]) 0 q q.nodes es D C A S G h.length++R)::h⟩) ∧
   get j3' 4=.ptr (h.length,2) 0∧get j3' 5=.ptr (h.length,3) 0∧get j3' 8=.ptr (h.length,10) 0):=by
 refine⟨λc=>?_,λc=>?_⟩
 ·by_cases c1:256<A.length
  ·have c1':((256:Int)<(A.length:Int))=True:=eq_true (by omega);simp[lB,x4,x5,x8,OfG,mkG,c1']
  ·have c1':((256:Int)<(A.length:Int))=False:=eq_false (by omega);have c2:64<S.length:=by omega
   have c2':((64:Int)<(S.length:Int))=True:=eq_true (by omega);simp[lB,x4,x5,x8,OfG,mkG,c1',c2']
 ·have c1:¬ 256<A.length:=by omega
  have c2:¬ 64<S.length:=by omega
  have c1':((256:Int)<(A.length:Int))=False:=eq_false (by omega);have c2':((64:Int)<(S.length:Int))=False:=eq_false (by omega);simp[lB,x4,x5,x8,OfG,mkG,c1',c2']
end
theorem F9{A:List Pt}(h:A≠[]):ptB A=.arr 56 5 false (A.map Pt.av):=by
 cases A with
 |nil=>exact absurd rfl h
 |cons x r=>rfl
theorem Xq(n:Nat)(live:List Nat)(j3:Env)(f:List Blk)(o:Heap)(hn:n<f.length):cut n live ⟨j3,f::o⟩=some ⟨keep live j3,f.take n::o⟩∨cut n live ⟨j3,f::o⟩=some ⟨keep live j3,f::o⟩:=by
 unfold cut;simp only;rw[if_neg (by omega)];split
 ·exact .inl rfl
 ·exact .inr rfl
section
variable(p:Po)(l:Sl Sc)(q:Po)(h:Heap)(D C:List Pc)(es:List (AV×AV))(A S:List Pt)(G:AV)
theorem Qy(R:List Blk)(j4 s:List Pt)(a:Pt)(hh:A=j4++a::s)(hA:A.length<=100000)(hb:-4611686018427387904<=a.hi-a.lo∧a.hi-a.lo<=4611686018427387904)(hf:far a=false) :
  ∃j3',evC K5 (mu K5) qi ⟨[(4,.ptr (h.length,2) 0),(5,.ptr (h.length,3) 0),(8,.ptr (h.length,10) 0),(157,.own (h.length,8) A.length),(158,iV (A.length:Int)),(159,iV (j4.length:Int))],(OfG p l (.agg [.ay,.ay,.ay,.ay,.ay]) 0 q q.nodes es D C A S G h.length++R)::h⟩=some (.norm,⟨j3',(OfG p l (.agg [.ay,.ay,.ay,.ay,.ay]) 0 q q.nodes es D C A S G h.length++(R++[.box 56 false a.av]))::h⟩) ∧
   keep [4,5,8,157,158,159] j3'=[(4,.ptr (h.length,2) 0),(5,.ptr (h.length,3) 0),(8,.ptr (h.length,10) 0),(157,.own (h.length,8) A.length),(158,iV (A.length:Int)),(159,iV ((j4++[a]).length:Int))]:=by
 have hl:A.length=j4.length+(s.length+1):=by rw[hh];simp
 have c1:(j4.length<A.length)=True:=eq_true (by omega);have e1:A[j4.length]?=some a:=by rw[hh];simp
 have e2:∀hq,A[j4.length]'hq=a:=λ_=>(aft.1 e1).2
 have w1:IntKind.i64.wrap (a.hi-a.lo)=a.hi-a.lo:=wrap64 (by omega) (by omega);have w2:=wrS (n:=j4.length) (by omega);have hp:=F9 (A:=A) (by rw[hh];simp);have c2:((4294967295:Int)<a.hi-a.lo)=False:=eq_false (by
  exact of_decide_eq_false hf)
 simp[qi,OfG,mkG,c1,e2,w1,w2,hp,c2,keep]
theorem J0(R:List Blk)(j4 s:List Pt)(a:Pt)(hh:A=j4++a::s)(hA:A.length<=100000)(hb:-4611686018427387904<=a.hi-a.lo∧a.hi-a.lo<=4611686018427387904)(hf:far a=true) :
  ∃j3',evC K5 (mu K5) qi ⟨[(4,.ptr (h.length,2) 0),(5,.ptr (h.length,3) 0),(8,.ptr (h.length,10) 0),(157,.own (h.length,8) A.length),(158,iV (A.length:Int)),(159,iV (j4.length:Int))],(OfG p l (.agg [.ay,.ay,.ay,.ay,.ay]) 0 q q.nodes es D C A S G h.length++R)::h⟩=some (.ret,⟨j3',(OfG p l (.agg [.ay,.ay,.ay,.ay,.ay]) 2 q q.nodes es D C A S G h.length++(R++[.box 56 false a.av]))::h⟩) ∧
   get j3' 4=.ptr (h.length,2) 0∧get j3' 5=.ptr (h.length,3) 0:=by
 have hl:A.length=j4.length+(s.length+1):=by rw[hh];simp
 have c1:(j4.length<A.length)=True:=eq_true (by omega);have e1:A[j4.length]?=some a:=by rw[hh];simp
 have e2:∀hq,A[j4.length]'hq=a:=λ_=>(aft.1 e1).2
 have w1:IntKind.i64.wrap (a.hi-a.lo)=a.hi-a.lo:=wrap64 (by omega) (by omega);have hp:=F9 (A:=A) (by rw[hh];simp);have c2:((4294967295:Int)<a.hi-a.lo)=True:=eq_true (by
  exact of_decide_eq_true hf)
 simp[qi,OfG,mkG,c1,e2,w1,hp,c2]
theorem Iq(R0:List Blk)(hA:A.length<=100000)(hb:∀a∈A,-4611686018427387904<=a.hi-a.lo∧a.hi-a.lo<=4611686018427387904):∀(s j4:List Pt) (X:List Blk),A=j4++s ->
  (s.any far=false->∃j3' X',(mu K5).code (.af (R0.length+11) [4,5,8,157,158,159] qi) ⟨[(4,.ptr (h.length,2) 0),(5,.ptr (h.length,3) 0),(8,.ptr (h.length,10) 0),(157,.own (h.length,8) A.length),(158,iV (A.length:Int)),(159,iV (j4.length:Int))],(OfG p l (.agg [.ay,.ay,.ay,.ay,.ay]) 0 q q.nodes es D C A S G h.length++(R0++X))::h⟩=some (.exit 6,⟨j3',(OfG p l (.agg [.ay,.ay,.ay,.ay,.ay]) 0 q q.nodes es D C A S G h.length++(R0++X'))::h⟩) ∧
   get j3' 4=.ptr (h.length,2) 0∧get j3' 5=.ptr (h.length,3) 0∧get j3' 8=.ptr (h.length,10) 0) ∧
  (s.any far=true->∃j3' X',(mu K5).code (.af (R0.length+11) [4,5,8,157,158,159] qi) ⟨[(4,.ptr (h.length,2) 0),(5,.ptr (h.length,3) 0),(8,.ptr (h.length,10) 0),(157,.own (h.length,8) A.length),(158,iV (A.length:Int)),(159,iV (j4.length:Int))],(OfG p l (.agg [.ay,.ay,.ay,.ay,.ay]) 0 q q.nodes es D C A S G h.length++(R0++X))::h⟩=some (.ret,⟨j3',(OfG p l (.agg [.ay,.ay,.ay,.ay,.ay]) 2 q q.nodes es D C A S G h.length++(R0++X'))::h⟩) ∧
   get j3' 4=.ptr (h.length,2) 0∧get j3' 5=.ptr (h.length,3) 0)
 | [],j4,X,hh=>by
  refine⟨λ_=>?_,λe=>by simp at e⟩;rw[afz]at hh;rw[aj];generalize (mu K5).code (.af (R0.length+11) [4,5,8,157,158,159] qi)=F;rw[<-hh];have this:evC K5 (mu K5) qi ⟨[(4,.ptr (h.length,2) 0),(5,.ptr (h.length,3) 0),(8,.ptr (h.length,10) 0),(157,.own (h.length,8) A.length),(158,iV (A.length:Int)),(159,iV (A.length:Int))],(OfG p l (.agg [.ay,.ay,.ay,.ay,.ay]) 0 q q.nodes es D C A S G h.length++(R0++X))::h⟩=some (.exit 6,⟨(160,.bool false)::[(4,.ptr (h.length,2) 0),(5,.ptr (h.length,3) 0),(8,.ptr (h.length,10) 0),(157,.own (h.length,8) A.length),(158,iV (A.length:Int)),(159,iV (A.length:Int))],(OfG p l (.agg [.ay,.ay,.ay,.ay,.ay]) 0 q q.nodes es D C A S G h.length++(R0++X))::h⟩):=by
   simp[qi]
  refine⟨(160,.bool false)::[(4,.ptr (h.length,2) 0),(5,.ptr (h.length,3) 0),(8,.ptr (h.length,10) 0),(157,.own (h.length,8) A.length),(158,iV (A.length:Int)),(159,iV (A.length:Int))],X,?_⟩;rw[this];exact⟨rfl,rfl,rfl,rfl⟩
 |a::s,j4,X,hh=>by
  have hba:=hb a (by rw[hh];simp);cases hf:far a with
  |true=>
   refine⟨λe=>by simp[hf]at e,λ_=>?_⟩;obtain⟨j3',k,r⟩:=J0 p l q h D C es A S G (R0++X) j4 s a hh hA hba hf;refine⟨j3',X++[.box 56 false a.av],?_,r⟩;rw[aj,k,L6,afX]
  |false=>
   obtain⟨j3',k,kp⟩:=Qy p l q h D C es A S G (R0++X) j4 s a hh hA hba hf;have key:∃X',(mu K5).code (.af (R0.length+11) [4,5,8,157,158,159] qi) ⟨[(4,.ptr (h.length,2) 0),(5,.ptr (h.length,3) 0),(8,.ptr (h.length,10) 0),(157,.own (h.length,8) A.length),(158,iV (A.length:Int)),(159,iV (j4.length:Int))],(OfG p l (.agg [.ay,.ay,.ay,.ay,.ay]) 0 q q.nodes es D C A S G h.length++(R0++X))::h⟩ =
     (mu K5).code (.af (R0.length+11) [4,5,8,157,158,159] qi) ⟨[(4,.ptr (h.length,2) 0),(5,.ptr (h.length,3) 0),(8,.ptr (h.length,10) 0),(157,.own (h.length,8) A.length),(158,iV (A.length:Int)),(159,iV ((j4++[a]).length:Int))],(OfG p l (.agg [.ay,.ay,.ay,.ay,.ay]) 0 q q.nodes es D C A S G h.length++(R0++X'))::h⟩:=by
    rcases Xq (R0.length+11) [4,5,8,157,158,159] j3' (OfG p l (.agg [.ay,.ay,.ay,.ay,.ay]) 0 q q.nodes es D C A S G h.length++(R0++X++[.box 56 false a.av])) h (by simp[OfG]) with e|e
    ·refine⟨[],?_⟩;rw[aj,k,CH,e,kp];simp only
     congr 3
     have:R0.length+11=(OfG p l (.agg [.ay,.ay,.ay,.ay,.ay]) 0 q q.nodes es D C A S G h.length++R0).length:=by simp[OfG]
     rw[this,afX,<-List.append_assoc,agP,afz]
    ·refine⟨X++[.box 56 false a.av],?_⟩;rw[aj,k,CH,e,kp,afX]
   obtain⟨X',e⟩:=key;have ih:=Iq R0 hA hb s (j4++[a]) X' (by rw[hh];simp);rw[e];simpa[hf]using ih
end
