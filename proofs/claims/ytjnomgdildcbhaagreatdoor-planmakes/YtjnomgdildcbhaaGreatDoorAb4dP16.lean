/-
  Schemas by their names, fields, the policy with its schemas: the program.
-/
import Derived.Test.YtjnomgdildcbhaaGreatDoorAb4dP7
import Derived.Test.YtjnomgdildcbhaaGreatDoorAb4dP10
import Derived.Test.YtjnomgdildcbhaaGreatDoorAb4dP3
set_option linter.all false
set_option maxRecDepth 100000
set_option maxHeartbeats 1000000
namespace Go.Ab.Pn
open Go.Ab.Pol
def ixF{α:Type}(g:α->Bool)(b:Nat)(x:α):Nat ⊕ Nat:=if g x=true then .inr b else .inl (b+1)
theorem sJ{α:Type}(g:α->Bool):∀(l:List α) (b:Nat),iter (ixF g) b l=match l.findIdx? g with
  |none=>.inl (b+l.length)
  |some k=>.inr (b+k)
 | [],b=>by simp[iter]
 |x::l,b=>by
  have ih:=sJ g l (b+1);simp only[iter,ixF,agn];cases e:g x
  ·simp only[afA,if_false,ih];cases l.findIdx? g with
   |none=>simp;omega
   |some k=>simp;omega
  ·simp
theorem f182(nm:Bs)(x:Pol.Fd)(a:Loc)(h:Heap)(ha:hget h a=some (.box 9 false (.str nm)))(hl:a.1<h.length):(mu K).fn 182 [x.av,.ptr a 0] h=some (.val (.bool (decide (x.name=nm))) h):=by
 rw[aC (KX _ _ _) Z8 rfl (by simp[SQ])];have ne:(h.length=a.1)=False:=by simp;omega
 have ne2:(a.1=h.length)=False:=by simp;omega
 by_cases e:x.name=nm
 ·have d:(x.name=nm)=True:=by simp[e]
  simp[SQ,ha,hget,ne2,d]
 ·simp[SQ,ha,hget,ne2,e]
theorem f181(nm:Bs)(s:Sl Pol.Fd)(hs:s.l.length<=1000)(b0:Blk)(h:Heap) :
  (mu K).fn 181 [s.avS Fd.av,.fn (.func 182) [] [.ptr (h.length,1) 0]] ([b0,.box 9 false (.str nm)]::h)=some (.val (.int .i64 (match s.l.findIdx? (λf=>decide (f.name=nm)) with|none=>-1|some k=>(k:Int))) ([b0,.box 9 false (.str nm)]::h)):=by
 have key:=aB (K:=K) (n:=0) (live:=[0,1,7,8]) (a:=uF) (ixF λf:Pol.Fd=>decide (f.name=nm))
  (λj4 b=>⟨[(0,s.avS Fd.av),(1,.fn (.func 182) [] [.ptr (h.length,1) 0]),(7,.int .i64 (s.l.length:Int)),(8,.int .i64 (j4.length:Int))],[]::[b0,.box 9 false (.str nm)]::h⟩) (λj4 b=>b=j4.length)
  (λb o=>∃j3,o=some (.exit 0,⟨j3,[]::[b0,.box 9 false (.str nm)]::h⟩)) (λk o=>∃j3,o=some (.ret,⟨j3,[]::[b0,.box 9 false (.str nm)]::h⟩)∧get j3 4=.int .i64 (k:Int)) s.l
  (λj4 x r b hl hb=>by
   obtain⟨h1,h2,w1⟩:=aA hl (by omega);have hix:=iaP Fd.av 5 s j4.length x (by simpa using h2);have k:=f182 nm x (h.length,1) ([]::[b0,.box 9 false (.str nm)]::h) (by simp[hget]) (by simp;omega);rw[aj];generalize (mu K).code _=F;clear hl;unfold ixF;by_cases e:x.name=nm
   ·have d:(x.name=nm)=True:=by simp[e]
    simp[uF,KL,aa,h1,hix,k,d,hb]
   ·simp[uF,KL,aa,h1,hix,w1,k,e,hb])
  (λb _=>by
   rw[aj];generalize (mu K).code _=F;simp[uF]) 0 rfl
 simp only[iO,afl]at key;rw[sJ]at key;rw[aC (KX _ _ _) Z7 rfl (by simp[SP])];cases e:s.l.findIdx? (λf=>decide (f.name=nm)) with
 |none=>
  rw[e]at key;obtain⟨_,j3,k⟩:=key;simp[SP,k]
 |some k0=>
  rw[e]at key;obtain⟨j3,k,g⟩:=key;simp only[afu]at g;simp[SP,k,g]
theorem f140(s:Sc)(hs:s.fields.l.length<=1000)(nm:Bs)(h:Heap):(mu K).fn 140 [s.av,.str nm] h=some (.val (.tup [.int .i64 (match fdI s nm with|none=>0|some k=>(k:Int)),.bool (fdI s nm).isSome]) h):=by
 have k:=λb0=>f181 nm s.fields hs b0 h
 rw[aC (KX _ _ _) Zu rfl (by simp[SJ])];unfold fdI;cases e:s.fields.l.findIdx? (λf=>decide (f.name=nm)) with
 |none=>
  simp only[e]at k;simp[SJ,KL,aa,k,iw]
 |some k0=>
  simp only[e]at k;have h0:(0:Int)<=(k0:Int):=by omega
  have h1:max (k0:Int) 0=(k0:Int):=by omega
  have h2:max (0:Int) (k0:Int)=(k0:Int):=by omega
  have h3:((k0:Int)<0)=False:=by simp
  simp[SJ,KL,aa,k,h0,h3,iw]
def zSc:Sc:=⟨[],⟨true,[]⟩⟩
def xJ:Option Sc->AV
 |none=>zSc.av
 |some s=>s.av
def fnF{α:Type}(g:α->Bool)(_:Unit)(x:α):Unit ⊕ α:=if g x=true then .inr x else .inl ()
theorem FL{α:Type}(g:α->Bool):∀(l:List α),iter (fnF g) () l=match l.find? g with
  |none=>.inl ()
  |some x=>.inr x
 | []=>rfl
 |x::l=>by
  have ih:=FL g l;simp only[iter,fnF,List.find?];cases e:g x
  ·simp only[afA,if_false,ih]
  ·simp
theorem f139(nl:Bool)(l:List Sc)(hl:l.length<=1000)(nm:Bs)(h:Heap):(mu K).fn 139 [lv nl (l.map Sc.av),.str nm] h=some (.val (.tup [xJ (scN l nm),.bool (scN l nm).isSome]) h):=by
 have key:=aB (K:=K) (n:=1) (live:=[1,4,8,9,10]) (a:=ug) (fnF λs:Sc=>decide (s.name=nm))
  (λj4 b=>⟨[(1,.str nm),(4,.ptr (h.length,0) 0),(8,lv nl (l.map Sc.av)),(9,.int .i64 (l.length:Int)),(10,.int .i64 (j4.length:Int))],[.box 84 false (.agg [.str [],.ay])]::h⟩) (λ_ _=>True)
  (λb o=>∃j3,o=some (.exit 0,⟨j3,[.box 84 false (.agg [.str [],.ay])]::h⟩)∧get j3 4=.ptr (h.length,0) 0) (λs o=>∃j3 R,o=some (.ret,⟨j3,(.box 84 false s.av::R)::h⟩)∧get j3 4=.ptr (h.length,0) 0∧get j3 5=.bool true) l
  (λj4 x r b hl' hb=>by
   obtain⟨h1,h2,w1⟩:=aA hl' (by omega);have hix:=λ(k:IntKind)=>nI (sz:=2) (nl:=nl) (l:=l.map Sc.av) (k:=k) (j:=(j4.length:Int)) (v:=x.av) (by omega) (by rw[afM,afy,h2];rfl) rfl
   rw[aj];generalize (mu K).code _=F;clear hl';unfold fnF;by_cases e:x.name=nm
   ·have d:(x.name=nm)=True:=by simp[e]
    simp[ug,h1,hix,d]
   ·simp[ug,h1,hix,w1,e])
  (λb _=>by
   rw[aj];generalize (mu K).code _=F;simp[ug]) () trivial
 simp only[iO,afl]at key;rw[FL]at key;rw[aC (KX _ _ _) Zt rfl (by simp[SI])];unfold scN;cases e:l.find? (λs=>decide (s.name=nm)) with
 |none=>
  rw[e]at key;obtain⟨_,j3,k,g4⟩:=key;have z0:zSc.av=.agg [.str [],.ay]:=rfl;simp[SI,k,g4,xJ,z0]
 |some s=>
  rw[e]at key;obtain⟨j3,R,k,g4,g5⟩:=key;simp[SI,k,g4,g5,xJ]
abbrev fP(p:Po)(l:Sl Sc):AV:=.agg [.str p.name,p.uses.avS Us.av,p.az.avS Rf.av,p.nodes.avS Nd.av,iV p.root,.str p.scope,iV p.limit,.str p.bt,l.avS Sc.av]
structure okL (l:Sl Sc):Prop where
 len:l.l.length<=1000
 sc:∀s∈l.l,WC s
theorem Pw(l:List Sc)(nm:Bs):(scN l nm).isSome=decide (nm∈l.map Sc.name):=by
 unfold scN;rw[agt];simp only[List.find?_isSome,decide_eq_true_eq,afG]
theorem Cb{α β γ ρ:Type}(F:β->γ->β ⊕ ρ)(g:α->γ):∀(l:List α) (b:β),iter (λb x=>F b (g x)) b l=iter F b (l.map g)
 | [],b=>rfl
 |x::l,b=>by
  simp only[iter,afj];cases F b (g x) with
  |inl b'=>exact Cb F g l b'
  |inr r=>rfl
def scF(_:Unit)(s:Sc):Unit ⊕ Int:=if jV s=0 then .inl () else .inr (jV s)
theorem FM:∀(l:List Sc),iter scF () l=if jC l=0 then .inl () else .inr (jC l)
 | []=>rfl
 |s::l=>by
  have e:=FM l;simp only[iter,scF,jC];by_cases c:jV s=0
  ·simp[c,e]
  ·simp[c]
theorem bD:∀u:Bs,(AV.str u).beq (AV.str u)=true:=λu=>by simp[AV.beq]
theorem Cc:∀u:Pol.Fd,u.av.beq u.av=true:=λu=>by simp[AV.beq,AV.dh,ak _ bD]
theorem eo:∀u:Sc,u.av.beq u.av=true:=λu=>by simp[AV.beq,AV.dh,ak _ Cc]
theorem f85(p:Po)(hp:Sz p)(l:Sl Sc)(hl:okL l)(h:Heap):(mu K).fn 85 [p.av,l.avS Sc.av] h=some (.val (.tup [fP p l,.int .i64 (bz p l.l)]) h):=by
 have k24:=λh=>f51 p hp h
 have kL:=aB (K:=K) (n:=3) (live:=[1,2,4,6,28,29,30]) (a:=Bw) scF
  (λj4 b=>⟨[(1,l.avS Sc.av),(2,.ptr (h.length,0) 0),(4,.ptr (h.length,1) 0),(6,.ptr (h.length,2) 0),(28,l.avS Sc.av),(29,.int .i64 (l.l.length:Int)),(30,.int .i64 (j4.length:Int))],
   [.box 26 false p.av,.box 170 false (.agg [.str [],.ay,.ay,.ay,iV 0,.str [],iV 0,.str [],.ay]),.box 170 false (fP p l)]::h⟩) (λ_ _=>True)
  (λb o=>∃j3,o=some (.exit 0,⟨j3,[.box 26 false p.av,.box 170 false (.agg [.str [],.ay,.ay,.ay,iV 0,.str [],iV 0,.str [],.ay]),.box 170 false (fP p l)]::h⟩)∧get j3 1=l.avS Sc.av∧get j3 2=.ptr (h.length,0) 0∧get j3 4=.ptr (h.length,1) 0∧get j3 6=.ptr (h.length,2) 0)
  (λe o=>∃j3 R,o=some (.ret,⟨j3,(.box 26 false p.av::.box 170 false (fP p l)::R)::h⟩)∧get j3 4=.ptr (h.length,1) 0∧get j3 5=.int .i64 e) l.l
  (λj4 x r b hl' hb=>by
   obtain⟨h1,h2,w1⟩:=aA hl' (by have:=hl.len;omega);have hix:=iaP Sc.av 2 l j4.length x (by simpa using h2);have k:=λh=>f138 x (hl.sc x (by rw[hl'];simp)) h
   rw[aj];generalize (mu K).code _=F;clear hl';unfold scF;by_cases e:jV x=0
   ·simp[Bw,KL,aa,h1,hix,w1,k,e]
   ·simp[Bw,KL,aa,h1,hix,k,e])
  (λb _=>by
   rw[aj];generalize (mu K).code _=F;simp[Bw]) () trivial
 have dH:=aB (K:=K) (n:=3) (live:=[2,4,6,41,42,43]) (a:=Bz) (λ(met:List Bs) (s:Sc)=>twF met s.name)
  (λj4 b=>⟨[(2,.ptr (h.length,0) 0),(4,.ptr (h.length,1) 0),(6,.ptr (h.length,2) 0),(41,l.avS Sc.av),(42,.int .i64 (l.l.length:Int)),(43,.int .i64 (j4.length:Int))],
   [.box 26 false p.av,.box 170 false (.agg [.str [],.ay,.ay,.ay,iV 0,.str [],iV 0,.str [],.ay]),.box 170 false (fP p l)]::h⟩) (λj4 met=>met=j4.map Sc.name)
  (λb o=>∃j3,o=some (.exit 2,⟨j3,[.box 26 false p.av,.box 170 false (.agg [.str [],.ay,.ay,.ay,iV 0,.str [],iV 0,.str [],.ay]),.box 170 false (fP p l)]::h⟩)∧get j3 2=.ptr (h.length,0) 0∧get j3 4=.ptr (h.length,1) 0∧get j3 6=.ptr (h.length,2) 0)
  (λe o=>∃j3 R,o=some (.ret,⟨j3,(.box 26 false p.av::.box 170 false (fP p l)::R)::h⟩)∧get j3 4=.ptr (h.length,1) 0∧get j3 5=.int .i64 8) l.l
  (λj4 x r b hl' hb=>by
   obtain⟨h1,h2,w1⟩:=aA hl' (by have:=hl.len;omega);have hlen:l.l.length=j4.length+(r.length+1):=by rw[hl'];simp
   have hix:=λ(k:IntKind)=>cG (sz:=2) (l:=l.l.map Sc.av) (k:=k) (j:=(j4.length:Int)) (v:=x.av) (by omega) (by rw[afM,afy,h2];rfl) rfl
   have k:=λh=>f139 false j4 (by have:=hl.len;omega) x.name h
   have k1:l.avS Sc.av=.lst (l.l.map Sc.av):=gu _ (by rw[hl'];simp);have kb:=nQ Sc.av eo l.l;have kb1:=nQ Sc.av eo j4;have k2:(l.l.map Sc.av).take j4.length=j4.map Sc.av:=by rw[hl'];simp
   have k3:j4.length<=l.l.length:=by omega
   have k4:(0:Int)<=(j4.length:Int):=by omega
   have k5:=Pw j4 x.name;simp only[lR,k5]at k;rw[<-hb]at k k5;rw[aj];generalize (mu K).code _=F;unfold twF;have hsc:∃a c,xJ (scN j4 x.name)=.agg [.str a,c]∧c.cells=[c]∧(∀p,c.aO p=true)∧∀p h,c.view p h=some (c,h):=by
    cases scN j4 x.name with
    |none=>exact⟨_,_,rfl,by simp,by simp,by simp⟩
    |some s=>exact⟨_,_,rfl,by simp,by simp,by simp⟩
   obtain⟨a,c,e1,e2,e3,e4⟩:=hsc;rw[e1]at k;have hb2:b++[x.name]=(j4++[x]).map Sc.name:=by rw[hb];simp
   clear hl';by_cases e:x.name∈b
   ·simp[Bz,KL,aa,h1,hix,k1,k2,k3,k4,k,e,e3,kb,kb1]
   ·simp[Bz,KL,aa,h1,hix,w1,k1,k2,k3,k4,k,e,e3,kb,kb1,hb2])
  (λb _=>by
   rw[aj];generalize (mu K).code _=F;simp[Bz]) [] rfl
 have lS:=aB (K:=K) (n:=3) (live:=[4,6,62,63,64]) (a:=BA) (λ(_:Unit) (u:Us)=>if (scN l.l u.sc).isSome=true then (.inl ():Unit ⊕ Unit) else .inr ())
  (λj4 b=>⟨[(4,.ptr (h.length,1) 0),(6,.ptr (h.length,2) 0),(62,p.uses.avS Us.av),(63,.int .i64 (p.uses.l.length:Int)),(64,.int .i64 (j4.length:Int))],
   [.box 26 false p.av,.box 170 false (.agg [.str [],.ay,.ay,.ay,iV 0,.str [],iV 0,.str [],.ay]),.box 170 false (fP p l)]::h⟩) (λ_ _=>True)
  (λb o=>∃j3,o=some (.exit 4,⟨j3,[.box 26 false p.av,.box 170 false (.agg [.str [],.ay,.ay,.ay,iV 0,.str [],iV 0,.str [],.ay]),.box 170 false (fP p l)]::h⟩)∧get j3 4=.ptr (h.length,1) 0∧get j3 6=.ptr (h.length,2) 0)
  (λe o=>∃j3 R,o=some (.ret,⟨j3,(.box 26 false p.av::.box 170 false (fP p l)::R)::h⟩)∧get j3 4=.ptr (h.length,1) 0∧get j3 5=.int .i64 9) p.uses.l
  (λj4 x r b hl' hb=>by
   obtain⟨h1,h2,w1⟩:=aA hl' (by have:=hp.uses.1;omega);have hix:=iaP Us.av 2 p.uses j4.length x (by simpa using h2);have k:∀h,(mu K).fn 139 [l.avS Sc.av,.str x.sc] h=_:=λh=>f139 l.nl l.l hl.len x.sc h
   rw[aj];generalize (mu K).code _=F;have hsc:∃a c,xJ (scN l.l x.sc)=.agg [.str a,c]∧c.cells=[c]∧(∀p,c.aO p=true)∧∀p h,c.view p h=some (c,h):=by
    cases scN l.l x.sc with
    |none=>exact⟨_,_,rfl,by simp,by simp,by simp⟩
    |some s=>exact⟨_,_,rfl,by simp,by simp,by simp⟩
   obtain⟨a,c,e1,e2,e3,e4⟩:=hsc;rw[e1]at k;clear hl';cases e:(scN l.l x.sc).isSome
   ·rw[e]at k;simp[BA,KL,aa,h1,hix,k,e3]
   ·rw[e]at k;simp[BA,KL,aa,h1,hix,w1,k,e3])
  (λb _=>by
   rw[aj];generalize (mu K).code _=F;simp[BA]) () trivial
 simp only[iO,afl]at kL dH lS;rw[FM]at kL;rw[Cb (λmet s=>twF met s) Sc.name]at dH;rw[aC (KX _ _ _) adS rfl (by simp[c85])];unfold bz;by_cases c0:chk p=0
 case neg=>
  rw[if_pos c0];simp[c85,KL,aa,k24,c0]
 rw[if_neg (by simp[c0])];by_cases c1:jC l.l=0
 case neg=>
  rw[if_neg c1]at kL;rw[if_pos c1];obtain⟨j3,R,k,g4,g5⟩:=kL;simp[c85,KL,aa,k24,c0,k,g4,g5]
 rw[if_neg (by simp[c1])];rw[if_pos c1]at kL;obtain⟨_,JG,a0,a1,a2,a4,a6⟩:=kL;obtain⟨t1,t2⟩:=wq (l.l.map Sc.name) [] (by simp);simp only[afq]at t1 t2;by_cases c2:(l.l.map Sc.name).Nodup
 case neg=>
  rw[t2 c2]at dH;rw[if_pos c2];obtain⟨j3,R,k,g4,g5⟩:=dH;simp[c85,KL,aa,k24,c0,a0,a1,a2,a4,a6,k,g4,g5]
 rw[if_neg (by simp[c2])];rw[t1 c2]at dH;obtain⟨_,iZ,b0,b2,b4,b6⟩:=dH;cases c3:p.uses.l.all (λu=>(scN l.l u.sc).isSome)
 ·rw[(aT (λu:Us=>(scN l.l u.sc).isSome) p.uses.l).2 c3]at lS;obtain⟨j3,R,k,g4,g5⟩:=lS;simp[c85,KL,aa,k24,c0,a0,a1,a2,a4,a6,b0,b2,b4,b6,k,g4,g5]
 ·rw[(aT (λu:Us=>(scN l.l u.sc).isSome) p.uses.l).1 c3]at lS;obtain⟨_,j3,k,g4,g6⟩:=lS;simp[c85,KL,aa,k24,c0,a0,a1,a2,a4,a6,b0,b2,b4,b6,k,g4,g6]
end Go.Ab.Pn
namespace Go.Ab.Pol
theorem mL:∀{l:List (Int×Int)},(fu l).2=0->fu l=(0,0)∧∀e∈l,e.2=0
 | [],_=>⟨rfl,λe h=>by simp at h⟩
 |e::l,h=>by
  simp only[fu]at h⊢;by_cases he:e.2=0
  ·rw[if_pos he]at h⊢;obtain⟨a,b⟩:=mL h;exact⟨a,λx hx=>by
    rcases afp.1 hx with rfl|hx
    ·exact he
    ·exact b x hx⟩
  ·rw[if_neg he]at h;exact absurd h he
structure WD (p:Po)(l:List Sc)(t:Tr):Prop where
 ready:bz p l=0
 Nh:∀r∈p.az.l,(findF p.uses.l l r).isSome=true
 conds:∀s∈t.subs,(cR (bS p.uses.l l) s).2=0
theorem Ce{p:Po}{l:List Sc}{t:Tr}(h:(iy p l t).2=0):WD p l t∧iy p l t=(0,0):=by
 unfold iy at h⊢;split at h
 ·rename_i a;exact absurd h a
 rename_i a;split at h
 ·simp at h
 rename_i b;rw[if_neg a,if_neg b];rw[iG]at h⊢;obtain⟨c,d⟩:=mL h;refine⟨⟨by simpa using a,?_,λs hs=>d _ (afG.2 ⟨s,hs,rfl⟩)⟩,c⟩;have b:p.az.l.all (λr=>(findF p.uses.l l r).isSome)=true:=(Bool.not_eq_false _).mp b;exact afL.1 b
theorem zQ:∀{l:List Sc},jC l=0->∀s∈l,jV s=0
 | [],_,s,h=>by simp at h
 |x::l,h,s,hs=>by
  simp only[jC]at h;split at h
  ·rename_i a;rcases afp.1 hs with rfl|hs
   ·exact a
   ·exact zQ h s hs
  ·rename_i a;exact absurd h a
structure WE (p:Po)(l:List Sc):Prop where
 chk:chk p=0
 sch:∀s∈l,jV s=0
 nd:(l.map Sc.name).Nodup
 uses:∀u∈p.uses.l,(scN l u.sc).isSome=true
theorem gU{p:Po}{l:List Sc}(h:bz p l=0):WE p l:=by
 unfold bz at h;split at h
 ·rename_i a;exact absurd h a
 rename_i a;split at h
 ·rename_i b;exact absurd h b
 rename_i b;split at h
 ·simp at h
 rename_i c;split at h
 ·simp at h
 rename_i d;refine⟨by simpa using a,zQ (by simpa using b),Classical.not_not.1 c,?_⟩;have d:p.uses.l.all (λu=>(scN l u.sc).isSome)=true:=(Bool.not_eq_false _).mp d;exact afL.1 d
theorem Cf{l:List Sc}{nm:Bs}{s:Sc}(h:scN l nm=some s):s∈l∧s.name=nm:=by
 unfold scN at h;exact⟨List.mem_of_find?_eq_some h,by simpa using List.find?_some h⟩
theorem qZ{ns:List Nd}:∀{ts:List Tr},nR ns ts↔∀t∈ts,IsT ns t
 | []=>by simp[nR]
 |t::ts=>by simp[nR,qZ (ts:=ts)]
theorem Lp{c:Bool}:∀{ts:List Tr},WFs ts c↔∀t∈ts,WF t c
 | []=>by simp[WFs]
 |t::ts=>by simp[WFs,Lp (ts:=ts)]
section
variable(i:Nat)(n':Nd)(sw:Bool)
end
structure afb (n0 n':Nd)(sw:Bool):Prop where
 nm:n'.nm=n0.nm
 attr:n'.attr=n0.attr
 k:n'.k=n0.k
 how:(sw=true∧n0.k=6∧(n0.num=0∨n0.num=1)∧n'.num=n0.num∧n0.kids.l.length=2∧n'.kids.l=n0.kids.l.reverse) ∨
  (sw=false∧n0.k=10∧-2147483648<=n'.num∧n'.num<=2147483647∧n'.kids.l=n0.kids.l)
section
variable{i:Nat}{n0 n':Nd}{sw:Bool}{ns:List Nd}
end
end Go.Ab.Pol
namespace Go.Ab.Pn
open Go.Ab.Pol
def Nu(l:List Sc)(attr:Bs)(b:Nat)(u:Us):Option (Nat×Nat×Pol.Fd):=match scN l u.sc with
 |none=>none
 |some s=>match fdI s attr with
  |none=>none
  |some k=>match s.fields.l[k]? with
   |none=>none
   |some f=>some (b,k,f)
def Tj(l:List Sc)(r:Rf)(b:Nat)(u:Us):Nat ⊕ Option (Nat×Nat×Pol.Fd):=if u.al=r.al then .inr (Nu l r.attr b u) else .inl (b+1)
theorem He(l:List Sc)(r:Rf):∀(us:List Us) (b:Nat),iter (Tj l r) b us=match xK us r.al with
  |none=>.inl (b+us.length)
  |some u=>.inr (match us[u]? with
   |none=>none
   |some x=>Nu l r.attr (b+u) x)
 | [],b=>by simp[iter,xK]
 |x::us,b=>by
  have ih:=He l r us (b+1);unfold xK at ih⊢;simp only[iter,Tj,agn];by_cases e:x.al=r.al
  ·simp[e]
  ·simp only[e,if_false,ih,decide_false,afA];cases us.findIdx? (λu=>decide (u.al=r.al)) with
   |none=>simp;omega
   |some k=>
    have e2:b+1+k=b+(k+1):=by omega
    simp[e2]
theorem Lq(us:List Us)(l:List Sc)(r:Rf):findF us l r=match xK us r.al with
  |none=>none
  |some u=>match us[u]? with
   |none=>none
   |some x=>Nu l r.attr u x:=rfl
def gM:Option (Nat×Nat×Pol.Fd)->AV
 |none=>.agg [iV 0,iV 0]
 |some (u,k,_)=>.agg [iV (u:Int),iV ((k:Int)+2)]
def dU:Option (Nat×Nat×Pol.Fd)->AV
 |none=>.agg [.str [],iV 0,iV 0,iV 0,.ay]
 |some (_,_,f)=>f.av
theorem f86(p:Po)(hp:p.uses.l.length<=1000)(l:Sl Sc)(hl:okL l)(r:Rf)(h:Heap):(mu K).fn 86 [fP p l,r.av] h=some (.val (.tup [gM (findF p.uses.l l.l r),dU (findF p.uses.l l.l r),.bool (findF p.uses.l l.l r).isSome]) h):=by
 have key:=aB (K:=K) (n:=4) (live:=[2,3,4,5,15,16,17]) (a:=vL) (Tj l.l r)
  (λj4 b=>⟨[(2,.ptr (h.length,0) 0),(3,.ptr (h.length,1) 0),(4,.ptr (h.length,2) 0),(5,.ptr (h.length,3) 0),(15,p.uses.avS Us.av),(16,.int .i64 (p.uses.l.length:Int)),(17,.int .i64 (j4.length:Int))],
   [.box 170 false (fP p l),.box 54 false r.av,.box 47 false (.agg [iV 0,iV 0]),.box 50 false (.agg [.str [],iV 0,iV 0,iV 0,.ay])]::h⟩) (λj4 b=>b=j4.length)
  (λb o=>∃j3 R,o=some (.exit 0,⟨j3,(.box 170 false (fP p l)::.box 54 false r.av::.box 47 false (.agg [iV 0,iV 0])::.box 50 false (.agg [.str [],iV 0,iV 0,iV 0,.ay])::R)::h⟩)∧get j3 4=.ptr (h.length,2) 0∧get j3 5=.ptr (h.length,3) 0)
  (λq o=>match q with
   |none=>∃j3 R,o=some (.exit 0,⟨j3,(.box 170 false (fP p l)::.box 54 false r.av::.box 47 false (.agg [iV 0,iV 0])::.box 50 false (.agg [.str [],iV 0,iV 0,iV 0,.ay])::R)::h⟩)∧get j3 4=.ptr (h.length,2) 0∧get j3 5=.ptr (h.length,3) 0
   |some (u,k,f)=>∃j3 R,o=some (.ret,⟨j3,(.box 170 false (fP p l)::.box 54 false r.av::.box 47 false (.agg [iV (u:Int),iV ((k:Int)+2)])::.box 50 false f.av::R)::h⟩)∧get j3 4=.ptr (h.length,2) 0∧get j3 5=.ptr (h.length,3) 0∧get j3 6=.bool true) p.uses.l
  (λj4 x rr b hl' hb=>by
   obtain⟨h1,h2,w1⟩:=aA hl' (by omega);have hix:=iaP Us.av 2 p.uses j4.length x (by simpa using h2);have k:∀h,(mu K).fn 139 [l.avS Sc.av,.str x.sc] h=_:=λh=>f139 l.nl l.l hl.len x.sc h
   rw[aj];generalize (mu K).code _=F;clear hl';unfold Tj;by_cases e:x.al=r.al
   case neg=>simp[vL,h1,hix,w1,e,hb]
   have d:(x.al=r.al)=True:=by simp[e]
   simp only[d,if_true];refine⟨λ_ q=>(by cases q),λq hq=>?_⟩;injection hq with hq
   subst hq;unfold Nu;cases es:scN l.l x.sc with
   |none=>
    rw[es]at k;have z0:xJ none=.agg [.str [],.ay]:=rfl;rw[z0]at k;simp[vL,KL,aa,h1,hix,d,k]
   |some s=>
    rw[es]at k;have z0:xJ (some s)=s.av:=rfl;rw[z0]at k;have hs:=hl.sc s (Cf es).1;have k2:=λh=>f140 s hs.len r.attr h
    cases ef:fdI s r.attr with
    |none=>
     rw[ef]at k2;simp[vL,KL,aa,h1,hix,d,k,k2,ef]
    |some i=>
     rw[ef]at k2;have hi:i<s.fields.l.length:=by
      unfold fdI at ef;exact (agx.1 ef).1
     have hg:s.fields.l[i]?=some s.fields.l[i]:=afD hi;generalize s.fields.l[i]=f at *
     have hiy:=iaP Fd.av 5 s.fields i f (by simpa using hg);have w2:IntKind.i64.wrap ((i:Int)+2)=(i:Int)+2:=wrap64 (by omega) (by have:=hs.len;omega);have q1:=ak _ Cc s.fields;have q2:=ak _ bD f.words;simp[vL,KL,aa,h1,hix,w2,d,k,k2,hiy,q1,q2,hb,ef,hg])
  (λb _=>by
   rw[aj];generalize (mu K).code _=F;simp[vL]) 0 rfl
 simp only[iO,afl]at key;rw[He]at key;rw[Lq];rw[aC (KX _ _ _) adT rfl (by simp[c86])];cases eu:xK p.uses.l r.al with
 |none=>
  rw[eu]at key;obtain⟨_,j3,R,k,g4,g5⟩:=key;simp[c86,k,g4,g5,gM,dU]
 |some u=>
  rw[eu]at key;simp only[afu]at key⊢;generalize (match p.uses.l[u]? with|none=>none|some x=>Nu l.l r.attr u x)=q at *
  cases q with
  |none=>
   obtain⟨j3,R,k,g4,g5⟩:=key;simp[c86,k,g4,g5,gM,dU]
  |some q=>
   obtain⟨u',k',f⟩:=q;obtain⟨j3,R,k,g4,g5,g6⟩:=key;simp[c86,k,g4,g5,g6,gM,dU]
structure PV where
 number:Bool
 words:Sl Bs
 name:Bs
abbrev PV.av(x:PV):AV:=.agg [.bool x.number,x.words.avS .str,.str x.name]
def PV.vt(x:PV):VT:=if x.number=true then .num else if x.words.l=[] then .wd x.name else .fw x.words.l
structure PV.ok (x:PV):Prop where
 len:x.words.l.length<=1000
 nn:x.number=true∨x.words.l≠[]∨x.words.nl=true
def Aw(us:List Us)(l:List Sc)(n:Nd):Option PV:=
 if n.k=10 then some ⟨true,⟨true,[]⟩,[]⟩ else if n.k=11 then some ⟨false,⟨true,[]⟩,n.nm⟩ else match findF us l ⟨n.nm,n.attr⟩ with
  |none=>none
  |some (_,_,f)=>some ⟨decide (f.kind=0),f.words,[]⟩
def JH:Option PV->AV
 |none=>.agg [.bool true,.ay,.str []]
 |some v=>v.av
theorem rq{us:List Us}{l:List Sc}{r:Rf}{u k:Nat}{f:Pol.Fd}(h:findF us l r=some (u,k,f)):∃s∈l,f∈s.fields.l:=by
 unfold findF at h;cases e1:xK us r.al with
 |none=>rw[e1]at h;cases h
 |some u'=>
  rw[e1]at h;simp only at h;cases e2:us[u']? with
  |none=>rw[e2]at h;cases h
  |some x=>
   rw[e2]at h;simp only at h;cases e3:scN l x.sc with
   |none=>rw[e3]at h;cases h
   |some s=>
    rw[e3]at h;simp only at h;cases e4:fdI s r.attr with
    |none=>rw[e4]at h;cases h
    |some k'=>
     rw[e4]at h;simp only at h;cases e5:s.fields.l[k']? with
     |none=>rw[e5]at h;cases h
     |some g=>
      rw[e5]at h;simp only[fS,afn]at h;obtain⟨_,_,rfl⟩:=h;exact⟨s,(Cf e3).1,afB e5⟩
theorem wu:∀{l:List Pol.Fd} {met:List Bs},gj met l=0->∀f∈l,bN f=0
 | [],met,h,f,hf=>by simp at hf
 |x::l,met,h,f,hf=>by
  simp only[gj]at h;split at h
  ·simp at h
  split at h
  ·simp at h
  split at h
  ·rename_i a;exact absurd h a
  ·rename_i a;have a:bN x=0:=by simpa using a
   rcases afp.1 hf with rfl|hf
   ·exact a
   ·exact wu h f hf
theorem Ee{s:Sc}(h:jV s=0):∀f∈s.fields.l,bN f=0:=by
 unfold jV at h;split at h
 ·simp at h
 split at h
 ·simp at h
 ·exact wu h
theorem zR{f:Pol.Fd}(h:bN f=0):f.kind≠0->f.words.l≠[]:=by
 intro hk e;unfold bN at h;rw[if_neg hk]at h;split at h
 ·split at h
  ·simp at h
  ·unfold nG at h;rw[e]at h;simp at h
 ·simp at h
theorem abf{us:List Us}{l:List Sc}(hs:∀s∈l,jV s=0)(n:Nd):bS us l n=(Aw us l n).map PV.vt:=by
 unfold bS Aw;split
 ·simp[PV.vt]
 split
 ·simp[PV.vt]
 ·cases e:findF us l ⟨n.nm,n.attr⟩ with
  |none=>rfl
  |some q=>
   obtain⟨u,k,f⟩:=q;obtain⟨s,h1,h2⟩:=rq e;have:=zR (Ee (hs s h1) f h2);simp only[af7,PV.vt];by_cases hk:f.kind=0
   ·simp[hk]
   ·simp[hk,this hk]
theorem abg{us:List Us}{l:Sl Sc}(hl:okL l)(hs:∀s∈l.l,jV s=0)(n:Nd){v:PV}(h:Aw us l.l n=some v):v.ok:=by
 unfold Aw at h;split at h
 ·injection h with h;subst h;exact⟨by simp,.inl rfl⟩
 split at h
 ·injection h with h;subst h;exact⟨by simp,.inr (.inr rfl)⟩
 ·cases e:findF us l.l ⟨n.nm,n.attr⟩ with
  |none=>rw[e]at h;cases h
  |some q=>
   obtain⟨u,k,f⟩:=q;rw[e]at h;obtain⟨s,h1,h2⟩:=rq e;have:=zR (Ee (hs s h1) f h2);injection h with h
   subst h;refine⟨((hl.sc s h1).fields f h2).len,?_⟩;by_cases hk:f.kind=0
   ·exact .inl (by simp[hk])
   ·exact .inr (.inl (this hk))
theorem f213(p:Po)(hp:p.uses.l.length<=1000)(l:Sl Sc)(hl:okL l){i:Nat}{n:Nd}(hn:p.nodes.l[i]?=some n)(h:Heap) :
  (mu K).fn 213 [fP p l,.int .i64 (i:Int)] h=some (.val (.tup [JH (Aw p.uses.l l.l n),.bool (Aw p.uses.l l.l n).isSome]) h):=by
 have k:=λh=>f86 p hp l hl ⟨n.nm,n.attr⟩ h
 have hix:=iaP Nd.av 6 p.nodes i n (by simpa using hn);rw[aC (KX _ _ _) aaC rfl (by simp[Na])];unfold Aw;by_cases c1:n.k=10
 ·have d:(n.k=10)=True:=by simp[c1]
  simp[Na,hix,d,JH];rfl
 by_cases c2:n.k=11
 ·have d:(n.k=11)=True:=by simp[c2]
  have d1:(n.k=10)=False:=by simp[c1]
  simp[Na,hix,d,d1,JH];rfl
 rw[if_neg c1,if_neg c2];cases e:findF p.uses.l l.l ⟨n.nm,n.attr⟩ with
 |none=>
  rw[e]at k;simp only[gM,dU]at k;simp[Na,KL,aa,hix,c1,c2,k,JH]
 |some q=>
  obtain⟨u,k',f⟩:=q;rw[e]at k;simp only[gM,dU]at k;simp[Na,KL,aa,hix,c1,c2,k,JH]
theorem sK:∀(a b:List Bs),a.length=b.length->(a.zip b).all (λq=>decide (q.1=q.2))=decide (a=b)
 | [],[],_=>rfl
 | [],_::_,h=>by simp at h
 |_::_,[],h=>by simp at h
 |x::a,y::b,h=>by
  have ih:=sK a b (by simpa using h);simp only[List.zip_cons_cons,af9,ih];rw[agt];simp
theorem f256(a b:Sl Bs)(ha:a.l.length<=1000)(h:Heap):(mu K).fn 256 [a.avS .str,b.avS .str] h=some (.val (.bool (decide (a.l=b.l))) h):=by
 rw[aC (KX _ _ _) aa0 rfl (by simp[OW])];by_cases hlen:a.l.length=b.l.length
 case neg=>
  have e:¬ a.l=b.l:=λq=>hlen (by rw[q])
  have e2:((a.l.length:Int)=(b.l.length:Int))=False:=by simp;omega
  simp[OW,e,e2]
 have e2:((a.l.length:Int)=(b.l.length:Int))=True:=by simp;omega
 have hz:(a.l.zip b.l).length=a.l.length:=by simp[hlen]
 have key:=aB (K:=K) (n:=0) (live:=[0,1,12,13]) (a:=uQ) (λ(_:Unit) (q:Bs×Bs)=>if decide (q.1=q.2)=true then (.inl ():Unit ⊕ Unit) else .inr ())
  (λj4 _=>⟨[(0,a.avS .str),(1,b.avS .str),(12,.int .i64 (a.l.length:Int)),(13,.int .i64 (j4.length:Int))],[]::h⟩) (λ_ _=>True)
  (λ_ o=>∃j3,o=some (.exit 0,⟨j3,[]::h⟩)) (λ_ o=>∃j3,o=some (.ret,⟨j3,[]::h⟩)∧get j3 4=.bool false) (a.l.zip b.l)
  (λj4 q r u hl _=>by
   obtain⟨x,y⟩:=q;obtain⟨h1,h2,w1⟩:=aA hl (by omega);rw[hz]at h1;obtain⟨g1,g2⟩:=List.getElem?_zip_eq_some.1 h2;have hix:=iaP AV.str 1 a j4.length x (by simpa using g1);have hiy:=iaP AV.str 1 b j4.length y (by simpa using g2);rw[aj];generalize (mu K).code _=F;clear hl;by_cases e:x=y
   ·have d:(x=y)=True:=by simp[e]
    simp[uQ,h1,hix,hiy,w1,d]
   ·simp[uQ,h1,hix,hiy,e])
  (λu _=>by
   rw[aj];generalize (mu K).code _=F;simp[uQ,hz,hlen]) () trivial
 simp only[iO,afl]at key;have ez:=sK a.l b.l hlen;by_cases e:a.l=b.l
 ·rw[decide_eq_true e]at ez;rw[(aT (λq:Bs×Bs=>decide (q.1=q.2)) (a.l.zip b.l)).1 ez]at key;obtain⟨_,j3,k⟩:=key;have e3:(a.l=b.l)=True:=by simp[e]
  rw[hlen]at k;simp[OW,hlen,k,e3]
 ·rw[decide_eq_false e]at ez;rw[(aT (λq:Bs×Bs=>decide (q.1=q.2)) (a.l.zip b.l)).2 ez]at key;obtain⟨j3,k,g⟩:=key;rw[hlen]at k;simp[OW,hlen,k,g,e]
theorem f245(a b:PV)(ha:a.ok)(hb:b.ok)(h:Heap):(mu K).fn 245 [a.av,b.av] h=some (.val (.int .i64 (aV a.vt b.vt)) h):=by
 obtain⟨a1,⟨anl,al⟩,an⟩:=a;obtain⟨b1,⟨bnl,bl⟩,bn⟩:=b;obtain⟨la,na⟩:=ha;obtain⟨lb,nb⟩:=hb;simp only at la na lb nb;have k99:∀h,(mu K).fn 256 [Sl.avS .str ⟨anl,al⟩,Sl.avS .str ⟨bnl,bl⟩] h=_:=λh=>f256 ⟨anl,al⟩ ⟨bnl,bl⟩ la h
 have kA:∀h,(mu K).fn 115 [Sl.avS .str ⟨anl,al⟩,.str bn] h=_:=λh=>f115 anl al bn (by omega) h
 have kB:∀h,(mu K).fn 115 [Sl.avS .str ⟨bnl,bl⟩,.str an] h=_:=λh=>f115 bnl bl an (by omega) h
 rw[aC (KX _ _ _) aaV rfl (by simp[vT])];cases a1
 ·cases b1
  ·cases al with
   |nil=>
    have e1:anl=true:=by simpa using na
    subst e1;have ea:Sl.avS AV.str ⟨true,[]⟩=.ay:=rfl;rw[ea]at k99 kA;cases bl with
    |nil=>
     have e2:bnl=true:=by simpa using nb
     subst e2;simp[vT,ea,PV.vt,aV]
    |cons w ws=>
     have eb:Sl.avS AV.str ⟨bnl,w::ws⟩=.lst ((w::ws).map .str):=rfl;rw[eb]at k99 kB;simp only[afj]at eb kB;by_cases hm:an∈w::ws
     ·have hm2:=hm;rw[afp]at hm2;simp only[decide_eq_true hm]at kB;simp[vT,KL,aa,ea,eb,PV.vt,aV,kB,hm2]
     ·have hm2:=hm;rw[afp,not_or]at hm2;simp only[decide_eq_false hm]at kB;simp[vT,KL,aa,ea,eb,PV.vt,aV,kB,hm2]
   |cons v vs=>
    have ea:Sl.avS AV.str ⟨anl,v::vs⟩=.lst ((v::vs).map .str):=rfl;rw[ea]at k99 kA;simp only[afj]at ea kA k99;cases bl with
    |nil=>
     have e2:bnl=true:=by simpa using nb
     subst e2;have eb:Sl.avS AV.str ⟨true,[]⟩=.ay:=rfl;by_cases hm:bn∈v::vs
     ·have hm2:=hm;rw[afp]at hm2;simp only[decide_eq_true hm]at kA;simp[vT,KL,aa,ea,eb,PV.vt,aV,kA,hm2]
     ·have hm2:=hm;rw[afp,not_or]at hm2;simp only[decide_eq_false hm]at kA;simp[vT,KL,aa,ea,eb,PV.vt,aV,kA,hm2]
    |cons w ws=>
     have eb:Sl.avS AV.str ⟨bnl,w::ws⟩=.lst ((w::ws).map .str):=rfl;rw[eb]at k99;simp only[afj]at eb k99;by_cases hm:v::vs=w::ws
     ·simp only[decide_eq_true hm]at k99;have hm2:=hm;rw[afH]at hm2;obtain⟨rfl,rfl⟩:=hm2;simp[vT,KL,aa,ea,eb,PV.vt,aV,k99]
     ·have hm2:=hm;rw[afH]at hm2;simp only[decide_eq_false hm]at k99;simp[vT,KL,aa,ea,eb,PV.vt,aV,k99,hm2]
  ·by_cases q:al=[]
   ·simp[vT,PV.vt,aV,q]
   ·simp[vT,PV.vt,aV,q]
 ·cases b1
  ·by_cases q:bl=[]
   ·simp[vT,PV.vt,aV,q]
   ·simp[vT,PV.vt,aV,q]
  ·simp[vT,PV.vt,aV]
theorem f244(v:PV)(h:Heap):(mu K).fn 244 [v.av] h=some (.val (.bool (!v.number)) h):=by
 rw[aC (KX _ _ _) aaU rfl (by simp[Wf])];simp[Wf]
theorem f255(l:List PV)(hl:l.length<=1000000)(h:Heap):∃i:Int,(mu K).fn 255 [.lst (l.map PV.av),.fn (.func 244) [] []] h=some (.val (.int .i64 i) h)∧decide (0<=i)=!l.all PV.number:=by
 have key:=aB (K:=K) (n:=0) (live:=[0,1,7,8]) (a:=uP) (λ(_:Unit) (x:PV)=>if x.number=true then (.inl ():Unit ⊕ Unit) else .inr ())
  (λj4 _=>⟨[(0,.lst (l.map PV.av)),(1,.fn (.func 244) [] []),(7,.int .i64 (l.length:Int)),(8,.int .i64 (j4.length:Int))],[]::h⟩) (λ_ _=>True)
  (λ_ o=>∃j3,o=some (.exit 0,⟨j3,[]::h⟩)) (λ_ o=>∃j3 i,o=some (.ret,⟨j3,[]::h⟩)∧get j3 4=.int .i64 i∧0<=i) l
  (λj4 x r b hl' _=>by
   obtain⟨h1,h2,w1⟩:=aA hl' (by omega);have hix:=λ(k:IntKind)=>cG (sz:=3) (l:=l.map PV.av) (k:=k) (j:=(j4.length:Int)) (v:=x.av) (by omega) (by rw[afM,afy,h2];rfl) rfl
   have k:=λh=>f244 x h
   rw[aj];generalize (mu K).code _=F;have hlen:(l.map PV.av).length=l.length:=by simp
   generalize l.map PV.av=M at *
   clear hl';cases e:x.number
   ·rw[e]at k;simp[uP,KL,aa,h1,hix,k]
   ·rw[e]at k;simp[uP,KL,aa,h1,hix,w1,k])
  (λb _=>by
   rw[aj];generalize (mu K).code _=F;simp[uP]) () trivial
 simp only[iO,afl]at key;rw[aC (KX _ _ _) aaZ rfl (by simp[S6])];cases hm:l.all PV.number
 ·rw[(aT PV.number l).2 hm]at key;obtain⟨j3,i,k,g4,hi⟩:=key;exact⟨i,by simp[S6,k,g4],by simp[hi]⟩
 ·rw[(aT PV.number l).1 hm]at key;obtain⟨_,j3,k⟩:=key;exact⟨-1,by simp[S6,k],by simp⟩
theorem f209(l:List PV)(hl:l.length<=1000000)(h:Heap):(mu K).fn 209 [.lst (l.map PV.av)] h=some (.val (.bool (l.all PV.number)) h):=by
 have aej:∀h,(mu K).fn 243 [.lst (l.map PV.av),.fn (.func 244) [] []] h=some (.val (.bool (!l.all PV.number)) h):=λh=>by
  obtain⟨i,k,hi⟩:=f255 l hl ([]::h);rw[aC (KX _ _ _) aaT rfl (by simp[We])];simp[-List.all_eq_true,We,KL,aa,k,hi]
 rw[aC (KX _ _ _) aay rfl (by simp[V6])];generalize l.all PV.number=b at *
 simp[V6,KL,aa,aej]
def agF(v:PV)(_:Unit)(x:PV):Unit ⊕ Int:=if aV v.vt x.vt=0 then .inl () else .inr (aV v.vt x.vt)
theorem Lr(v:PV):∀l:List PV,iter (agF v) () l=if fW v.vt (l.map PV.vt)=0 then .inl () else .inr (fW v.vt (l.map PV.vt))
 | []=>rfl
 |x::l=>by
  have ih:=Lr v l;simp only[iter,agF,afj,fW];by_cases e:aV v.vt x.vt=0
  ·simp[e,ih]
  ·simp[e]
theorem f210(v:PV)(l:List PV)(hl:l.length<=1000000)(hv:v.ok)(hs:∀x∈l,x.ok)(h:Heap):(mu K).fn 210 [.lst ((v::l).map PV.av)] h=some (.val (.int .i64 (nJ ((v::l).map PV.vt))) h):=by
 have key:=aB (K:=K) (n:=0) (live:=[0,7,8,9]) (a:=uI) (agF v)
  (λj4 _=>⟨[(0,.lst ((v::l).map PV.av)),(7,.lst (l.map PV.av)),(8,.int .i64 (l.length:Int)),(9,.int .i64 (j4.length:Int))],[]::h⟩) (λ_ _=>True)
  (λ_ o=>∃j3,o=some (.exit 0,⟨j3,[]::h⟩)) (λe o=>∃j3 R,o=some (.ret,⟨j3,R::h⟩)∧get j3 2=.int .i64 e) l
  (λj4 x r b hl' _=>by
   obtain⟨h1,h2,w1⟩:=aA hl' (by omega);have hix:=λ(k:IntKind)=>cG (sz:=3) (l:=l.map PV.av) (k:=k) (j:=(j4.length:Int)) (v:=x.av) (by omega) (by rw[afM,afy,h2];rfl) rfl
   have hi0:=λ(k:IntKind)=>cG (sz:=3) (l:=(v::l).map PV.av) (k:=k) (j:=0) (v:=v.av) (by omega) rfl rfl
   have k:=λh=>f245 v x hv (hs x (by rw[hl'];simp)) h
   simp only[afj]at hi0⊢;rw[aj];generalize (mu K).code _=F;have hlen:(l.map PV.av).length=l.length:=by simp
   generalize l.map PV.av=M at *
   clear hl';unfold agF;generalize aV v.vt x.vt=e at *
   by_cases e0:e=0
   ·have d:(e=0)=True:=by simp[e0]
    subst e0;simp[uI,KL,aa,h1,hix,hi0,w1,k]
   ·simp[uI,KL,aa,h1,hix,hi0,k,e0])
  (λb _=>by
   rw[aj];generalize (mu K).code _=F;simp[uI]) () trivial
 simp only[iO,afl]at key;rw[Lr]at key;rw[aC (KX _ _ _) aaz rfl (by simp[SZ])];simp only[afj,nJ];have t1:((1:Int)<=(l.length:Int)+1)=True:=by simp;omega
 have t2:(v.av::l.map PV.av).take (l.length+1)=v.av::l.map PV.av:=agG (by simp);by_cases e:fW v.vt (l.map PV.vt)=0
 ·rw[if_pos e]at key;obtain⟨_,j3,k⟩:=key;simp only[afj]at k;simp[SZ,k,e,t1,t2]
 ·rw[if_neg e]at key;obtain⟨j3,R,k,g⟩:=key;simp only[afj]at k;simp[SZ,k,g,t1,t2]
