/-
  The nodes of a policy: the reference's visit.
-/
import Derived.Test.YtjnomgdildcbhaaGreatDoorAb4dP8
import Derived.Test.YtjnomgdildcbhaaGreatDoorAb4dA
set_option linter.unusedVariables false
set_option linter.unusedSimpArgs false
set_option linter.unusedSectionVars false
namespace Go.Ab.Pn
open Go.Ab.Pol
set_option maxRecDepth 100000
set_option maxHeartbeats 2000000
theorem pJ{α:Type}[DecidableEq α]:∀ (s l:List α),s.Nodup->(∀ x∈s,x∈l)->s.length<=l.length
 | [],l,_,_=>afg _
 |a :: s,l,hn,hs=>by
  have h1:=hs a (by simp);have hn':=afq.1 hn;have:=pJ s (l.erase a) hn'.2 (λx hx=>(List.mem_erase_of_ne (λe=>hn'.1 (by rw[<-e];exact hx))).2 (hs x (by simp[hx])));rw[afM h1]at this;have:0<l.length:=List.length_pos_of_mem h1;simp only[ad1];omega
def In(n:Nat)(seen:List Int):Prop:=seen.Nodup∧∀ x∈seen,0<=x∧x<(n:Int)
theorem In.len{n:Nat}{seen:List Int}(h:In n seen):seen.length<=n:=by
 have:=pJ seen ((List.range n).map λ(j:Nat)=>(j:Int)) h.1 (λx hx=>by
  obtain⟨h0,h1⟩:=h.2 x hx;simp only[aeg,List.mem_range];exact⟨x.toNat,by omega,by omega⟩)
 simpa using this
theorem In.snoc{n:Nat}{seen:List Int}{i:Int}(h:In n seen)(h0:0<=i)(h1:i<(n:Int))(h2:i∉seen):In n (seen++[i]):=by
 refine⟨?_,?_⟩
 ·rw[aeQ];refine⟨h.1,by simp,?_⟩;intro a ha b hb e;simp only[aed]at hb;subst hb;subst e;exact h2 ha
 ·intro x hx;rcases aep.1 hx with hx |hx
  ·exact h.2 x hx
  ·simp only[aed]at hx;subst hx;exact⟨h0,h1⟩
theorem CA{α β ρ:Type}(g:β->α->β):∀ (l:List α) (b:β),iter (λb x=>(.inl (g b x):β ⊕ ρ)) b l=.inl (l.foldl g b)
 | [],b=>rfl
 |x :: l,b=>by rw[iter,ae4];exact CA g l (g b x)
def bools(n:Nat)(seen:List Int):List AV:=(List.range n).map λ(j:Nat)=>.bool (decide ((j:Int)∈seen))
@[simp] theorem W4 (n:Nat) (seen:List Int):(bools n seen).length=n:=by simp [bools]
end Go.Ab.Pn
/-
  The reference's check of a policy.
-/
namespace Go.Ab.Pn
open Go.Ab.Pol
set_option maxRecDepth 100000
set_option maxHeartbeats 2000000
theorem uh{α:Type}(av:α->AV)(h:∀ x,(av x).beq (av x)=true):∀ l:List α,AV.eG (l.map av) (l.map av)=true
 | []=>by simp[AV.eG]
 |x :: l=>by simp[AV.eG,h x,uh av h l]
theorem ay{α:Type}(av:α->AV)(h:∀ x,(av x).beq (av x)=true)(s:Sl α):(s.avS av).beq (s.avS av)=true:=by
 obtain⟨nl,l⟩:=s;cases l with
 |nil=>cases nl<;>rfl
 |cons x l=>
  have:=uh av h (x :: l);simpa[Sl.avS,AV.beq]using this
theorem bJ(n:Int):(iV n).beq (iV n)=true:=by simp[AV.beq]
theorem dR:∀ u:Us,u.av.beq u.av=true:=λu=>by simp[AV.beq,AV.eG]
theorem fK:∀ u:Rf,u.av.beq u.av=true:=λu=>by simp[AV.beq,AV.eG]
theorem dK:∀ u:Nd,u.av.beq u.av=true:=λu=>by simp[AV.beq,AV.eG,ay _ bJ]
/- The loops of the check. -/
end Go.Ab.Pn
/-
  Jm: the program.
-/
namespace Go.Ab.Pn
open Go.Ab.Pol
set_option maxRecDepth 100000
set_option maxHeartbeats 1000000
def oF(n:Int):Bool:=fQ n ||jG n ||decide (n=95)
theorem f232(n:Int)(h:Heap):(mu K).fn 232 [.int .u8 n] h=some (.val (.bool (fQ n)) h):=by
 rw[aB (KX _ _ _) ZK rfl (by simp[Ud])];unfold fQ;by_cases a:97<=n<;>by_cases b:n<=122<;>by_cases c:65<=n<;>by_cases d:n<=90<;>simp[Ud,KL,aa,a,b,c,d]
theorem f252(n:Int)(h:Heap):(mu K).fn 252 [.int .u8 n] h=some (.val (.bool (jG n)) h):=by
 rw[aB (KX _ _ _) ZV rfl (by simp[Ui])];unfold jG;by_cases a:48<=n<;>by_cases b:n<=57<;>simp[Ui,KL,aa,a,b]
theorem f234(n:Int)(h:Heap):(mu K).fn 234 [.int .u8 n] h=some (.val (.bool (oF n)) h):=by
 have k1:=λh=>f232 n h
 have k2:=λh=>f252 n h
 rw[aB (KX _ _ _) ZM rfl (by simp[Lb])];unfold oF;cases a:fQ n
 ·cases b:jG n
  ·by_cases c:n=95
   ·have d:(n=95)=True:=by simp[c]
    simp[Lb,KL,aa,k1,k2,a,b,d]
   ·simp[Lb,KL,aa,k1,k2,a,b,c]
  ·simp[Lb,KL,aa,k1,k2,a,b]
 ·simp[Lb,KL,aa,k1,k2,a]
theorem f259(n:Int)(h:Heap):(mu K).fn 259 [.int .u8 n] h=some (.val (.bool (oF n ||decide (n=45))) h):=by
 have k1:=λh=>f234 n h
 rw[aB (KX _ _ _) ZZ rfl (by simp[MM])];cases a:oF n
 ·by_cases c:n=45
  ·have d:(n=45)=True:=by simp[c]
   simp[MM,KL,aa,k1,a,d]
  ·simp[MM,KL,aa,k1,a,c]
 ·simp[MM,KL,aa,k1,a]
theorem f233(g:FuncId)(pr:Int->Bool)(hg:∀ n h,(mu K).fn g [.int .u8 n] h=some (.val (.bool (pr n)) h))(s:Bs)(hs:okS s)(h:Heap) :
  (mu K).fn 233 [.str s,.fn (.func g) [] []] h=some (.val (.bool (s.all λc=>pr (c.toNat:Int))) h):=by
 have key:=aD (K:=K) (n:=0) (live:=[0,1,7,8]) (a:=sM) (λ(_:Unit) (c:UInt8)=>if pr (c.toNat:Int)=true then (.inl ():Unit ⊕ Unit) else .inr ())
  (λpre b=>⟨[(0,.str s),(1,.fn (.func g) [] []),(7,.int .i64 (s.length:Int)),(8,.int .i64 (pre.length:Int))],[] :: h⟩) (λpre b=>True)
  (λb o=>∃ env,o=some (.exit 0,⟨env,[] :: h⟩)) (λ_ o=>∃ env,o=some (.ret,⟨env,[] :: h⟩)∧get env 4=.bool false) s
  (λpre x r b hl hb=>by
   obtain⟨h1,h2,w1⟩:=aH hl hs;have k:=λh=>hg (x.toNat:Int) h
   rw[au];generalize (mu K).code (.af 0 [0,1,7,8] sM)=F;clear hb hl;cases c:pr (x.toNat:Int)
   ·simp[sM,KL,aa,h1,h2,w1,k,c]
   ·simp[sM,KL,aa,h1,h2,w1,k,c])
  (λb _=>by
   rw[au];generalize (mu K).code (.af 0 [0,1,7,8] sM)=F;simp[sM]) () trivial
 simp only[adZ,ad5]at key;rw[aB (KX _ _ _) ZL rfl (by simp[QS])];cases hn:s.all (λc=>pr (c.toNat:Int))
 ·rw[(aX (λc:UInt8=>pr (c.toNat:Int)) s).2 hn]at key;obtain⟨env,k,g⟩:=key;simp[QS,KL,aa,k,g]
 ·rw[(aX (λc:UInt8=>pr (c.toNat:Int)) s).1 hn]at key;obtain⟨_,env,k⟩:=key;simp[QS,KL,aa,k]
theorem f235(s:Bs)(h:Heap):(mu K).fn 235 [.str s] h=some (.val (.bool (kw s)) h):=by
 have k:=λh=>f115 false kws s (by decide) h
 simp only[mK]at k;have e:kws.map AV.str=[.str [112,111,108,105,99,121],.str [117,115,101,115],.str [114,101,118,101,97,108],.str [112,114,111,118,101],.str [115,99,111,112,101],.str [108,105,109,105,116],.str [101,115,99,114,111,119],.str [101,110,100],.str [97,108,108],.str [97,110,121],.str [97,116,108,101,97,115,116],.str [110,111,116],.str [116,114,117,101],.str [102,97,108,115,101],.str [98,101,116,119,101,101,110],.str [97,110,100],.str [105,110]]:=rfl;rw[e]at k;rw[aB (KX _ _ _) ZN rfl (by simp[Ue])];unfold kw;generalize decide (s∈kws)=b at *
 simp[Ue,KL,aa,k]
theorem CL:∀ s:Bs,rI false s=s.all λc=>oF (c.toNat:Int)
 | []=>rfl
 |c :: s=>by
  simp only[rI,aeG,CL s,rV,oF];cases fQ (c.toNat:Int)<;>cases jG (c.toNat:Int)<;>cases decide ((c.toNat:Int)=95)<;>rfl
theorem CM:∀ s:Bs,tM s=s.all λc=>(oF (c.toNat:Int) ||decide ((c.toNat:Int)=45))
 | []=>rfl
 |c :: s=>by
  simp only[tM,aeG,CM s,zP,oF];cases fQ (c.toNat:Int)<;>cases jG (c.toNat:Int)<;>cases decide ((c.toNat:Int)=95)<;>cases decide ((c.toNat:Int)=45)<;>rfl
theorem f179(s:Bs)(hs:okS s)(h:Heap):(mu K).fn 179 [.str s] h=some (.val (.bool (aW s)) h):=by
 have k1:=λh=>f233 234 oF f234 s hs h
 have k2:=λh=>f235 s h
 rw[aB (KX _ _ _) Zl rfl (by simp[HE])];cases s with
 |nil=>simp[HE,KL,aa,aW]
 |cons c r=>
  have k3:=λh=>f232 (c.toNat:Int) h
  by_cases e3:r.length+1<=32
  case neg=>
   have e4:aW (c :: r)=false:=by simp only[aW,ad1,decide_eq_false e3];simp
   have e5:((r.length:Int)+1<=32)=False:=by simp;omega
   rw[e4];simp[HE,KL,aa,e5]
  have e5:((r.length:Int)+1<=32)=True:=by simp;omega
  have e6:(r.length<=31)=True:=by simp;omega
  cases a:fQ (c.toNat:Int)
  ·have e4:aW (c :: r)=false:=by simp[aW,rI,rV,a]
   rw[e4];simp[HE,KL,aa,e5,e6,k3,a]
  have e7:aW (c :: r)=(((c :: r).all λc=>oF (c.toNat:Int)) && !kw (c :: r)):=by
   simp only[aW,rI,rV,a,afp,aeu,CL,aeG,ad1,decide_eq_true e3,ae3,oF];simp
  rw[e7];generalize ((c :: r).all λc=>oF (c.toNat:Int))=b1 at *
  generalize kw (c :: r)=b2 at *
  cases b1
  ·simp[HE,KL,aa,e5,e6,k3,a,k1]
  ·simp[HE,KL,aa,e5,e6,k3,a,k1,k2]
theorem f253(s:Bs)(hs:okS s)(h:Heap):(mu K).fn 253 [.str s] h=some (.val (.bool (gG s)) h):=by
 have k1:=λh=>f233 259 _ f259 s hs h
 rw[<-CM]at k1;rw[aB (KX _ _ _) ZW rfl (by simp[MK])];unfold gG;generalize tM s=b at *
 by_cases e1:s=[]
 ·have d1:(s=[])=True:=by simp[e1]
  simp[MK,KL,aa,d1]
 ·by_cases e2:(s.length:Int)<=32
  ·have e3:s.length<=32:=by omega
   simp[MK,KL,aa,k1,e1,e2,e3]
  ·have e3:¬ s.length<=32:=by omega
   simp[MK,KL,aa,k1,e1,e2,e3]
structure aag (f:Pol.Fd):Prop where
 name:okS f.name
 len:f.words.l.length<=1000
 words:∀ w∈f.words.l,okS w
structure Rb (s:Sc):Prop where
 name:okS s.name
 len:s.fields.l.length<=1000
 fields:∀ f∈s.fields.l,aag f
def wdF(met:List Bs)(w:Bs):List Bs ⊕ Int:=if gG w=false then .inr 1 else if w∈met then .inr 8 else .inl (met++[w])
theorem Jn:∀ (l met:List Bs),iter wdF met l=if kC met l=0 then .inl (met++l) else .inr (kC met l)
 | [],met=>by simp[iter,kC]
 |w :: l,met=>by
  simp only[iter,wdF,kC];by_cases a:gG w=false
  ·simp[a]
  ·simp only[a,aef,if_false];by_cases b:w∈met
   ·simp[b]
   ·have e:=Jn l (met++[w]);simp[b,e]
theorem f236(s:Sl Bs)(h1:s.l.length<=1000)(h2:∀ w∈s.l,okS w)(h:Heap):(mu K).fn 236 [s.avS .str] h=some (.val (.int .i64 (sV s.l)) h):=by
 have key:=aD (K:=K) (n:=1) (live:=[3,15,16,17]) (a:=oV) wdF
  (λpre met=>⟨[(3,.mp (h.length,0)),(15,s.avS .str),(16,.int .i64 (s.l.length:Int)),(17,.int .i64 (pre.length:Int))],[.map (fZ AV.str met)] :: h⟩) (λ_ _=>True)
  (λmet o=>∃ env,o=some (.exit 0,⟨env,[.map (fZ AV.str met)] :: h⟩)) (λe o=>∃ env Fr,o=some (.ret,⟨env,Fr :: h⟩)∧get env 2=.int .i64 e) s.l
  (λpre x r met hl' _=>by
   obtain⟨g1,g2,w1⟩:=aH hl' (by omega);have hix:=λ(k:IntKind)=>aG (av:=AV.str) (sz:=1) (s:=s) (k:=k) (j:=(pre.length:Int)) (x:=x) (by omega) (by simpa using g2) rfl
   have lk:=jQ vv x met;have uk:=mC vv x met;have kw:=λh=>f253 x (h2 x (by rw[hl'];simp)) h
   rw[au];generalize (mu K).code (.af 1 [3,15,16,17] oV)=F;clear hl';unfold wdF;cases a:gG x
   ·simp[oV,KL,aa,g1,hix,w1,kw,a]
   by_cases hx:x∈met
   ·simp[oV,KL,aa,g1,hix,w1,kw,a,eqK,eqF,lk,hx]
   ·have uk:=uk hx;simp[oV,KL,aa,g1,hix,w1,kw,a,eqK,eqF,lk,uk,hx])
  (λmet _=>by
   rw[au];generalize (mu K).code (.af 1 [3,15,16,17] oV)=F;simp[oV]) [] trivial
 simp only[adZ,ad5]at key;have e0:fZ AV.str []=[]:=rfl;rw[Jn]at key;simp only[e0]at key;rw[aB (KX _ _ _) ZO rfl (by simp[Lc])];unfold sV;by_cases c1:s.l.length<1
 ·have d1:(s.l.length:Int)<1:=by omega
  rw[if_pos (.inl c1)];simp[Lc,KL,aa,d1]
 have d1:¬ (s.l.length:Int)<1:=by omega
 by_cases c2:64<s.l.length
 ·have d2:(64:Int)<(s.l.length:Int):=by omega
  rw[if_pos (.inr c2)];simp[Lc,KL,aa,d1,d2]
 have d2:¬ (64:Int)<(s.l.length:Int):=by omega
 rw[if_neg (by omega)];by_cases hn:kC [] s.l=0
 ·rw[if_pos hn]at key;obtain⟨_,env,k⟩:=key;simp[Lc,KL,aa,d1,d2,k,hn]
 ·rw[if_neg hn]at key;obtain⟨env,Fr,k,g2⟩:=key;simp[Lc,KL,aa,d1,d2,k,g2]
theorem f180(f:Pol.Fd)(hf:aag f)(h:Heap):(mu K).fn 180 [f.av] h=some (.val (.int .i64 (dh f)) h):=by
 have k1:=λh=>f236 f.words hf.len hf.words h
 obtain⟨name,kind,mn,mx,words⟩:=f;simp only at k1;rw[aB (KX _ _ _) Zm rfl (by simp[Af])];unfold dh;by_cases c0:kind=0
 ·have d0:(kind=0)=True:=by simp[c0]
  by_cases c1:words.l=[]
  case neg=>
   have e1:0<(words.l.length:Int):=by
    have:0<words.l.length:=afu.2 c1;omega
   have e2:0<words.l.length:=by omega
   simp[Af,KL,aa,d0,c1,e1,e2]
  have e1:words.l.length=0:=by simp[c1]
  have dd:(words.l=[])=True:=by simp[c1]
  by_cases c2:mn < -2147483648
  ·simp[Af,KL,aa,d0,dd,e1,c2]
  by_cases c3:2147483647<mx
  ·simp[Af,KL,aa,d0,dd,e1,c2,c3]
  by_cases c4:mx<mn
  ·simp[Af,KL,aa,d0,dd,e1,c2,c3,c4]
  ·simp[Af,KL,aa,d0,dd,e1,c2,c3,c4]
 by_cases c1:kind=1
 ·have d1:(kind=1)=True:=by simp[c1]
  have d0:(kind=0)=False:=by simp[c0]
  by_cases c2:mn=0
  case neg=>
   simp[Af,KL,aa,d0,d1,c2]
  have d2:(mn=0)=True:=by simp[c2]
  by_cases c3:mx=0
  case neg=>
   simp[Af,KL,aa,d0,d1,d2,c3]
  have d3:(mx=0)=True:=by simp[c3]
  simp[Af,KL,aa,d0,d1,d2,d3,k1]
 ·simp[Af,KL,aa,c0,c1]
def fdF(met:List Bs)(f:Pol.Fd):List Bs ⊕ Int:=if aW f.name=false then .inr 1 else if f.name∈met then .inr 8 else if dh f≠0 then .inr (dh f) else .inl (met++[f.name])
theorem Jo:∀ (l:List Pol.Fd) (met:List Bs),iter fdF met l=if fT met l=0 then .inl (met++l.map Pol.Fd.name) else .inr (fT met l)
 | [],met=>by simp[iter,fT]
 |f :: l,met=>by
  simp only[iter,fdF,fT];by_cases a:aW f.name=false
  ·simp[a]
  ·simp only[a,aef,if_false];by_cases b:f.name∈met
   ·simp[b]
   ·simp only[b,if_false];by_cases c:dh f=0
    ·have e:=Jo l (met++[f.name]);simp[b,c,e]
    ·simp[c]
theorem f138(s:Sc)(hs:Rb s)(h:Heap):(mu K).fn 138 [s.av] h=some (.val (.int .i64 (ju s)) h):=by
 have key:=aD (K:=K) (n:=2) (live:=[3,23,24,25]) (a:=nJ) fdF
  (λpre met=>⟨[(3,.mp (h.length,1)),(23,s.fields.avS Pol.Fd.av),(24,.int .i64 (s.fields.l.length:Int)),(25,.int .i64 (pre.length:Int))],[.box 84 false s.av,.map (fZ AV.str met)] :: h⟩) (λ_ _=>True)
  (λmet o=>∃ env,o=some (.exit 0,⟨env,[.box 84 false s.av,.map (fZ AV.str met)] :: h⟩)) (λe o=>∃ env Fr,o=some (.ret,⟨env,Fr :: h⟩)∧get env 2=.int .i64 e) s.fields.l
  (λpre x r met hl' _=>by
   obtain⟨g1,g2,w1⟩:=aH hl' (by have:=hs.len;omega);have hx:=hs.fields x (by rw[hl'];simp);have hix:=λ(k:IntKind)=>aG (av:=Pol.Fd.av) (sz:=5) (s:=s.fields) (k:=k) (j:=(pre.length:Int)) (x:=x) (by omega) (by simpa using g2) rfl
   have lk:=jQ vv x.name met;have uk:=mC vv x.name met;have k1:=λh=>f179 x.name hx.name h
   have k2:=λh=>f180 x hx h
   have kr:=λp=>iY (kv:=AV.str) p met
   have kr2:=λp=>iY (kv:=AV.str) p (met++[x.name])
   rw[au];generalize (mu K).code (.af 2 [3,23,24,25] nJ)=F;clear hl';unfold fdF;cases a:aW x.name
   ·simp[nJ,KL,aa,g1,hix,w1,k1,a]
   by_cases hm:x.name∈met
   ·simp[nJ,KL,aa,g1,hix,w1,k1,a,eqK,eqF,lk,hm]
   ·have uk:=uk hm;by_cases he:dh x=0
    ·simp[-List.all_eq_true,nJ,KL,aa,g1,hix,w1,k1,k2,a,eqK,eqF,lk,uk,hm,he,kr,kr2]
    ·simp[nJ,KL,aa,g1,hix,w1,k1,k2,a,eqK,eqF,lk,uk,hm,he])
  (λmet _=>by
   rw[au];generalize (mu K).code (.af 2 [3,23,24,25] nJ)=F;simp[nJ]) [] trivial
 simp only[adZ,ad5]at key;have e0:fZ AV.str []=[]:=rfl;rw[Jo]at key;simp only[e0]at key;have k0:=λh=>f179 s.name hs.name h
 rw[aB (KX _ _ _) Y4 rfl (by simp[c138])];unfold ju;cases a:aW s.name
 ·simp[c138,KL,aa,k0,a]
 by_cases c1:s.fields.l.length<1
 ·have d1:(s.fields.l.length:Int)<1:=by omega
  simp[c138,KL,aa,k0,a,d1,c1]
 have d1:¬ (s.fields.l.length:Int)<1:=by omega
 by_cases c2:16<s.fields.l.length
 ·have d2:(16:Int)<(s.fields.l.length:Int):=by omega
  simp[c138,KL,aa,k0,a,d1,d2,c2]
 have d2:¬ (16:Int)<(s.fields.l.length:Int):=by omega
 rw[if_neg (by simp),if_neg (by omega)];by_cases hn:fT [] s.fields.l=0
 ·rw[if_pos hn]at key;obtain⟨_,env,k⟩:=key;simp[c138,KL,aa,k0,a,d1,d2,k,hn]
 ·rw[if_neg hn]at key;obtain⟨env,Fr,k,g2⟩:=key;simp[c138,KL,aa,k0,a,d1,d2,k,g2]
end Go.Ab.Pn
/-
  Jm by their names, fields, the policy with its schemas: the program.
-/
namespace Go.Ab.Pn
open Go.Ab.Pol
set_option maxRecDepth 100000
set_option maxHeartbeats 1000000
def ixF{α:Type}(g:α->Bool)(b:Nat)(x:α):Nat ⊕ Nat:=if g x=true then .inr b else .inl (b+1)
theorem Jp{α:Type}(g:α->Bool):∀ (l:List α) (b:Nat),iter (ixF g) b l=match l.findIdx? g with
  |none=>.inl (b+l.length)
  |some k=>.inr (b+k)
 | [],b=>by simp[iter]
 |x :: l,b=>by
  have ih:=Jp g l (b+1);simp only[iter,ixF,afh];cases e:g x
  ·simp only[aef,if_false,ih];cases l.findIdx? g with
   |none=>simp;omega
   |some k=>simp;omega
  ·simp
theorem f182(nm:Bs)(x:Pol.Fd)(a:Loc)(h:Heap)(ha:hget h a=some (.box 9 false (.str nm)))(hl:a.1<h.length):(mu K).fn 182 [x.av,.ptr a 0] h=some (.val (.bool (decide (x.name=nm))) h):=by
 rw[aB (KX _ _ _) Zo rfl (by simp[QD])];have ne:(h.length=a.1)=False:=by simp;omega
 have ne2:(a.1=h.length)=False:=by simp;omega
 by_cases e:x.name=nm
 ·have d:(x.name=nm)=True:=by simp[e]
  simp[QD,KL,aa,ha,hget,ne,ne2,d]
 ·simp[QD,KL,aa,ha,hget,ne,ne2,e]
theorem f181(nm:Bs)(s:Sl Pol.Fd)(hs:s.l.length<=1000)(b0:Blk)(h:Heap) :
  (mu K).fn 181 [s.avS Fd.av,.fn (.func 182) [] [.ptr (h.length,1) 0]] ([b0,.box 9 false (.str nm)] :: h)=some (.val (.int .i64 (match s.l.findIdx? (λf=>decide (f.name=nm)) with |none=>-1 |some k=>(k:Int))) ([b0,.box 9 false (.str nm)] :: h)):=by
 have key:=aD (K:=K) (n:=0) (live:=[0,1,7,8]) (a:=sI) (ixF λf:Pol.Fd=>decide (f.name=nm))
  (λpre b=>⟨[(0,s.avS Fd.av),(1,.fn (.func 182) [] [.ptr (h.length,1) 0]),(7,.int .i64 (s.l.length:Int)),(8,.int .i64 (pre.length:Int))],[] :: [b0,.box 9 false (.str nm)] :: h⟩) (λpre b=>b=pre.length)
  (λb o=>∃ env,o=some (.exit 0,⟨env,[] :: [b0,.box 9 false (.str nm)] :: h⟩)) (λk o=>∃ env,o=some (.ret,⟨env,[] :: [b0,.box 9 false (.str nm)] :: h⟩)∧get env 4=.int .i64 (k:Int)) s.l
  (λpre x r b hl hb=>by
   obtain⟨h1,h2,w1⟩:=aH hl (by omega);have hix:=λ(k:IntKind)=>aG (av:=Fd.av) (sz:=5) (s:=s) (k:=k) (j:=(pre.length:Int)) (x:=x) (by omega) (by simpa using h2) rfl
   have k:=f182 nm x (h.length,1) ([] :: [b0,.box 9 false (.str nm)] :: h) (by simp[hget]) (by simp;omega);rw[au];generalize (mu K).code (.af 0 [0,1,7,8] sI)=F;clear hl;unfold ixF;by_cases e:x.name=nm
   ·have d:(x.name=nm)=True:=by simp[e]
    simp[sI,KL,aa,h1,hix,w1,k,d,hb]
   ·simp[sI,KL,aa,h1,hix,w1,k,e,hb])
  (λb _=>by
   rw[au];generalize (mu K).code (.af 0 [0,1,7,8] sI)=F;simp[sI]) 0 rfl
 simp only[adZ,ad5]at key;rw[Jp]at key;rw[aB (KX _ _ _) Zn rfl (by simp[QC])];cases e:s.l.findIdx? (λf=>decide (f.name=nm)) with
 |none=>
  rw[e]at key;obtain⟨_,env,k⟩:=key;simp[QC,KL,aa,k]
 |some k0=>
  rw[e]at key;obtain⟨env,k,g⟩:=key;simp only[ad7]at g;simp[QC,KL,aa,k,g]
theorem f140(s:Sc)(hs:s.fields.l.length<=1000)(nm:Bs)(h:Heap):(mu K).fn 140 [s.av,.str nm] h=some (.val (.tup [.int .i64 (match fdI s nm with |none=>0 |some k=>(k:Int)),.bool (fdI s nm).isSome]) h):=by
 have k:=λb0=>f181 nm s.fields hs b0 h
 rw[aB (KX _ _ _) Y6 rfl (by simp[Qz])];unfold fdI;cases e:s.fields.l.findIdx? (λf=>decide (f.name=nm)) with
 |none=>
  simp only[e]at k;simp[Qz,KL,aa,k,kG]
 |some k0=>
  simp only[e]at k;have h0:(0:Int)<=(k0:Int):=by omega
  have h1:max (k0:Int) 0=(k0:Int):=by omega
  have h2:max (0:Int) (k0:Int)=(k0:Int):=by omega
  have h3:((k0:Int)<0)=False:=by simp
  simp[Qz,KL,aa,k,h0,h1,h2,h3,kG]
def zSc:Sc:=⟨[],⟨true,[]⟩⟩
def Ay:Option Sc->AV
 |none=>zSc.av
 |some s=>s.av
def fnF{α:Type}(g:α->Bool)(_:Unit)(x:α):Unit ⊕ α:=if g x=true then .inr x else .inl ()
theorem D9{α:Type}(g:α->Bool):∀ (l:List α),iter (fnF g) () l=match l.find? g with
  |none=>.inl ()
  |some x=>.inr x
 | []=>rfl
 |x :: l=>by
  have ih:=D9 g l;simp only[iter,fnF,List.find?];cases e:g x
  ·simp only[aef,if_false,ih]
  ·simp
theorem f139(nl:Bool)(l:List Sc)(hl:l.length<=1000)(nm:Bs)(h:Heap):(mu K).fn 139 [lv nl (l.map Sc.av),.str nm] h=some (.val (.tup [Ay (scN l nm),.bool (scN l nm).isSome]) h):=by
 have key:=aD (K:=K) (n:=1) (live:=[1,4,8,9,10]) (a:=sF) (fnF λs:Sc=>decide (s.name=nm))
  (λpre b=>⟨[(1,.str nm),(4,.ptr (h.length,0) 0),(8,lv nl (l.map Sc.av)),(9,.int .i64 (l.length:Int)),(10,.int .i64 (pre.length:Int))],[.box 84 false (.agg [.str [],.aj])] :: h⟩) (λ_ _=>True)
  (λb o=>∃ env,o=some (.exit 0,⟨env,[.box 84 false (.agg [.str [],.aj])] :: h⟩)∧get env 4=.ptr (h.length,0) 0) (λs o=>∃ env R,o=some (.ret,⟨env,(.box 84 false s.av :: R) :: h⟩)∧get env 4=.ptr (h.length,0) 0∧get env 5=.bool true) l
  (λpre x r b hl' hb=>by
   obtain⟨h1,h2,w1⟩:=aH hl' (by omega);have hix:=λ(k:IntKind)=>nB (sz:=2) (nl:=nl) (l:=l.map Sc.av) (k:=k) (j:=(pre.length:Int)) (v:=x.av) (by omega) (by rw[aev,aeh,h2];rfl) rfl
   rw[au];generalize (mu K).code (.af 1 [1,4,8,9,10] sF)=F;clear hl';unfold fnF;by_cases e:x.name=nm
   ·have d:(x.name=nm)=True:=by simp[e]
    simp[sF,KL,aa,h1,hix,w1,d]
   ·simp[sF,KL,aa,h1,hix,w1,e])
  (λb _=>by
   rw[au];generalize (mu K).code (.af 1 [1,4,8,9,10] sF)=F;simp[sF]) () trivial
 simp only[adZ,ad5]at key;rw[D9]at key;rw[aB (KX _ _ _) Y5 rfl (by simp[Qy])];unfold scN;cases e:l.find? (λs=>decide (s.name=nm)) with
 |none=>
  rw[e]at key;obtain⟨_,env,k,g4⟩:=key;have z0:zSc.av=.agg [.str [],.aj]:=rfl;simp[Qy,KL,aa,k,g4,Ay,z0]
 |some s=>
  rw[e]at key;obtain⟨env,R,k,g4,g5⟩:=key;simp[Qy,KL,aa,k,g4,g5,Ay]
end Go.Ab.Pn
