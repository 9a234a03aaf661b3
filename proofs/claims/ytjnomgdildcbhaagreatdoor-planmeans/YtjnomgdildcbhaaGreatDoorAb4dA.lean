/-
  Types of policies: what a condition demands of its values, the first node that is wrong, and what a policy that fits has.
-/
import Derived.Test.YtjnomgdildcbhaaGreatDoorAbNorm
import Derived.Test.YtjnomgdildcbhaaGreatDoorAb4dC
import Derived.Test.YtjnomgdildcbhaaGreatDoorAbArg
set_option linter.unusedVariables false
set_option linter.unusedSimpArgs false
namespace Go.Ab.Pol
inductive VT where
 |num
 |wd (w:Bs)
 |fw (ws:List Bs)
def cg(us:List Us)(l:List Sc)(n:Nd):Option VT:=
 if n.k=10 then some .num else if n.k=11 then some (.wd n.nm) else match findF us l ⟨n.nm,n.attr⟩ with
  |none=>none
  |some (_,_,f)=>some (if f.kind=0 then .num else .fw f.words.l)
def aT:VT->VT->Int
 |.num,.num=>0
 |.num,_=>10
 |_,.num=>10
 |.fw a,.fw b=>if a=b then 0 else 10
 |.fw a,.wd w=>if w∈a then 0 else 9
 |.wd w,.fw b=>if w∈b then 0 else 9
 |.wd _,.wd _=>0
def isNum:VT->Bool
 |.num=>true
 |_=>false
def lK(v:VT):List VT->Int
 | []=>0
 |x :: l=>if aT v x=0 then lK v l else aT v x
def oM:List VT->Int
 | []=>0
 |v :: l=>lK v l
def dI(n:Nd)(l:List VT):Int:=
 if n.k=6 then (if n.num≠0∧n.num≠1∧l.all isNum=false then 10 else oM l)
 else if n.k=7 then (if l.all isNum=false then 10 else 0) else oM l
section
variable(f:Nd->Option VT)
def iA:List Tr->Nat ⊕ List VT
 | []=>.inr []
 |t :: ts=>match f t.n with
  |none=>.inl t.i
  |some v=>match iA ts with
   |.inl i=>.inl i
   |.inr vs=>.inr (v :: vs)
def cZ:Tr->Int×Int
 |.nd i n ks=>if n.k=6∨n.k=7∨n.k=8 then (match iA f ks with
   |.inl k=>((k:Int),9)
   |.inr vs=>if dI n vs=0 then (0,0) else ((i:Int),dI n vs)) else (0,0)
mutual
def iB:Tr->Int×Int
 |.nd i n ks=>if (cZ f (.nd i n ks)).2=0 then jm ks else cZ f (.nd i n ks)
def jm:List Tr->Int×Int
 | []=>(0,0)
 |t :: ts=>if (iB t).2=0 then jm ts else iB t
end
end
mutual
def Tr.subs:Tr->List Tr
 |.nd i n ks=>.nd i n ks :: Tr.br ks
def Tr.br:List Tr->List Tr
 | []=>[]
 |t :: ts=>t.subs++Tr.br ts
end
def eI:List (Int×Int)->Int×Int
 | []=>(0,0)
 |e :: l=>if e.2=0 then eI l else e
theorem Cc(l m:List (Int×Int)):eI (l++m)=if (eI l).2=0 then eI m else eI l:=by
 induction l with
 |nil=>simp[eI]
 |cons e l ih=>
  simp only[ad4,eI];by_cases h:e.2=0
  ·simp[h,ih]
  ·simp[h]
mutual
theorem jr(f:Nd->Option VT):∀ t:Tr,iB f t=eI (t.subs.map (cZ f))
 |.nd i n ks=>by
  have:=ny f ks;simp only[iB,Tr.subs,Io,eI,this]
theorem ny(f:Nd->Option VT):∀ ts:List Tr,jm f ts=eI ((Tr.br ts).map (cZ f))
 | []=>rfl
 |t :: ts=>by
  have h1:=jr f t;have h2:=ny f ts;simp only[jm,Tr.br,aey,Cc,h1,h2]
end
mutual
theorem mA:∀ t:Tr,t.pre=t.subs.map Tr.i
 |.nd i n ks=>by simp[Tr.pre,Tr.subs,Tr.i,zL ks]
theorem zL:∀ ts:List Tr,Tr.dJ ts=(Tr.br ts).map Tr.i
 | []=>rfl
 |t :: ts=>by simp[Tr.dJ,Tr.br,mA t,zL ts]
end
mutual
theorem jt{ns:List Nd}:∀ {t:Tr},IsT ns t->∀ s∈t.subs,IsT ns s
 |.nd i n ks,h,s,hs=>by
  simp only[Tr.subs,adY]at hs;rcases hs with rfl |hs
  ·exact h
  ·exact Cv h.2.2 s hs
theorem Cv{ns:List Nd}:∀ {ts:List Tr},kY ns ts->∀ s∈Tr.br ts,IsT ns s
 | [],h,s,hs=>by simp[Tr.br]at hs
 |t :: ts,h,s,hs=>by
  simp only[Tr.br,aep]at hs;rcases hs with hs |hs
  ·exact jt h.1 s hs
  ·exact Cv h.2 s hs
end
def jF:List Sc->Int
 | []=>0
 |s :: l=>if ju s=0 then jF l else ju s
def bI(p:Po)(l:List Sc):Int:=
 if chk p≠0 then chk p else if jF l≠0 then jF l else if ¬ (l.map Sc.name).Nodup then 8
 else if p.uses.l.all (λu=>(scN l u.sc).isSome)=false then 9 else 0
def fB(p:Po)(l:List Sc)(t:Tr):Int×Int:=
 if bI p l≠0 then (0,bI p l) else if p.aA.l.all (λr=>(findF p.uses.l l r).isSome)=false then (0,9)
 else iB (cg p.uses.l l) t
/- What a policy that fits has. -/
theorem gP{v:VT}:∀ {l:List VT},lK v l=0->∀ x∈l,aT v x=0
 | [],_,x,hx=>by simp at hx
 |y :: l,h,x,hx=>by
  simp only[lK]at h;split at h
  ·rename_i h0;rcases adY.1 hx with rfl |hx
   ·exact h0
   ·exact gP h x hx
  ·rename_i h0;exact absurd h h0
theorem iX{f:Nd->Option VT}:∀ {ts:List Tr} {vs:List VT},iA f ts=.inr vs->ts.map (λt=>f t.n)=vs.map some
 | [],vs,h=>by
  simp only[iA,Sum.inr.injEq]at h;subst h;rfl
 |t :: ts,vs,h=>by
  simp only[iA]at h;split at h
  ·cases h
  ·rename_i v hv;split at h
   ·cases h
   ·rename_i ws hw;simp only[Sum.inr.injEq]at h;subst h;simp[hv,iX hw]
def ak(us:List Us)(l:List Sc)(n:Nd):Fd:=match findF us l ⟨n.nm,n.attr⟩ with
 |none=>zFd
 |some (_,_,f)=>f
theorem zM{us:List Us}{l:List Sc}{n:Nd}(hk:n.k=9∨n.k=10∨n.k=11)(h:cg us l n=some .num):(n.k=9∧(ak us l n).kind=0)∨n.k=10:=by
 unfold cg at h;split at h
 ·rename_i e;exact .inr e
 split at h
 ·cases h
 ·split at h
  ·cases h
  ·rename_i f hf;split at h
   ·rename_i e;refine .inl ⟨by omega,?_⟩;unfold ak;rw[hf];exact e
   ·cases h
theorem zN{us:List Us}{l:List Sc}{n:Nd}{w:Bs}(h:cg us l n=some (.wd w)):n.k=11∧n.nm=w:=by
 unfold cg at h;split at h
 ·cases h
 split at h
 ·rename_i e;simp only[fS,VT.wd.injEq]at h;exact⟨e,h⟩
 ·split at h
  ·cases h
  ·split at h<;>cases h
theorem zO{us:List Us}{l:List Sc}{n:Nd}{ws:List Bs}(hk:n.k=9∨n.k=10∨n.k=11)(h:cg us l n=some (.fw ws)):n.k=9∧(ak us l n).kind≠0∧(ak us l n).words.l=ws:=by
 unfold cg at h;split at h
 ·cases h
 split at h
 ·cases h
 ·split at h
  ·cases h
  ·rename_i f hf;split at h
   ·cases h
   ·rename_i e;simp only[fS,VT.fw.injEq]at h;unfold ak;rw[hf];exact⟨by omega,e,h⟩
theorem DM{us:List Us}{l:List Sc}{how:Int}(hh:How how){a b:Nd}(ha:a.k=9∨a.k=10∨a.k=11)(hb:b.k=9∨b.k=10∨b.k=11){x y:VT}(hx:cg us l a=some x)(hy:cg us l b=some y)
  (hag:aT x y=0) (hn:(how=0∨how=1)∨(isNum x=true∧isNum y=true)):Fits (ak us l) how a b:=by
 refine⟨hh,ha,hb,?_⟩;cases x with
 |num=>
  cases y with
  |num=>exact .inl ⟨zM ha hx,zM hb hy⟩
  |wd w=>simp[aT]at hag
  |fw ws=>simp[aT]at hag
 |wd u=>
  obtain⟨a1,a2⟩:=zN hx;have hn2:how=0∨how=1:=hn.resolve_right (by simp[isNum]);cases y with
  |num=>simp[aT]at hag
  |wd w=>
   obtain⟨b1,b2⟩:=zN hy;exact .inr ⟨hn2,.inr a1,.inr b1,λq=>by omega,λq=>by omega,λ_ q=>by omega⟩
  |fw ws=>
   obtain⟨b1,b2,b3⟩:=zO hb hy;simp only[aT]at hag;split at hag
   ·rename_i hm;exact .inr ⟨hn2,.inr a1,.inl ⟨b1,b2⟩,λq=>by omega,λq=>by omega,λ_ _=>by rw[a2,b3];exact hm⟩
   ·cases hag
 |fw us'=>
  obtain⟨a1,a2,a3⟩:=zO ha hx;have hn2:how=0∨how=1:=hn.resolve_right (by simp[isNum]);cases y with
  |num=>simp[aT]at hag
  |wd w=>
   obtain⟨b1,b2⟩:=zN hy;simp only[aT]at hag;split at hag
   ·rename_i hm;exact .inr ⟨hn2,.inl ⟨a1,a2⟩,.inr b1,λ_ q=>by omega,λ_ _=>by rw[b2,a3];exact hm,λq=>by omega⟩
   ·cases hag
  |fw ws=>
   obtain⟨b1,b2,b3⟩:=zO hb hy;simp only[aT]at hag;split at hag
   ·rename_i hm;exact .inr ⟨hn2,.inl ⟨a1,a2⟩,.inl ⟨b1,b2⟩,λ_ _=>by rw[a3,b3,hm],λ_ q=>by omega,λq=>by omega⟩
   ·cases hag
theorem eJ{n:Nd}{c:Bool}(h:jX n c=0):0<=n.k∧n.k<12∧(decide (n.k<=8)=c)∧cQ n.k n.kids.l.length=true∧dS n=true∧EZ n<=n.num∧n.num<=xe n:=by
 unfold jX at h;split at h
 ·simp at h
 ·rename_i h1;split at h
  ·simp at h
  ·rename_i h2;have h1:fE n c=true:=by simpa using h1
   simp only[fE,ad8,decide_eq_true_eq,beq_iff_eq]at h1;exact⟨h1.1.1.1.1,h1.1.1.1.2,h1.1.1.2,h1.1.2,h1.2,by omega,by omega⟩
theorem DN{c:Bool}:∀ {ts:List Tr},WFs ts c->∀ t∈ts,WF t c
 | [],_,t,ht=>by simp at ht
 |s :: ts,h,t,ht=>by
  rcases adY.1 ht with rfl |ht
  ·exact h.1
  ·exact DN h.2 t ht
theorem Hz{t:Tr}(h:WF t false):t.n.k=9∨t.n.k=10∨t.n.k=11:=by
 cases t with
 |nd i n ks=>
  obtain⟨h1,h2,h3,_⟩:=eJ h.1;simp only[Tr.n];simp only[decide_eq_false_iff_not]at h3;omega
end Go.Ab.Pol
/-
  Names, words, nodes alone: the program.
-/
set_option linter.unusedSectionVars false
namespace Go.Ab.Pn
open Go.Ab.Pol
set_option maxRecDepth 100000
set_option maxHeartbeats 1000000
def hkF(f:FuncId):Bool:=f==284 ||f==48 ||f==49 ||f==187 ||f==87
theorem KX(f:FuncId)(a:List AV)(h:Heap)(hf:hkF f=false:=by decide):K.X f a h=none:=by
 show Hy f a h=none;unfold Hy;split<;>first |rfl |(exact absurd hf (by decide))
theorem KXc(f:FuncId)(v:AV)(h:Heap)(hf:f≠284)(hv:v≠.lst []):K.X f [v] h=none:=by
 show Hy f [v] h=none;unfold Hy;split
 ·exact absurd rfl hf
 all_goals first |rfl |(rename_i q;exact absurd (by injection q) hv) |exact absurd rfl hv
theorem KL(f:FuncId):K.jq f=aa f:=rfl
abbrev okS(s:Bs):Prop:=s.length<=140737488355328
theorem f214(n:Int)(h:Heap):(mu K).fn 214 [.int .u8 n] h=some (.val (.bool (fQ n)) h):=by
 rw[aB (KX _ _ _) XT rfl (by simp[TI])];unfold fQ;by_cases a:97<=n<;>by_cases b:n<=122<;>by_cases c:65<=n<;>by_cases d:n<=90<;>simp[TI,KL,aa,a,b,c,d]
theorem f215(n:Int)(h:Heap):(mu K).fn 215 [.int .u8 n] h=some (.val (.bool (jG n)) h):=by
 rw[aB (KX _ _ _) XU rfl (by simp[TJ])];unfold jG;by_cases a:48<=n<;>by_cases b:n<=57<;>simp[TJ,KL,aa,a,b]
theorem f216(s:Bs)(h:Heap):(mu K).fn 216 [.str s] h=some (.val (.bool (kw s)) h):=by
 rw[aB (KX _ _ _) XV rfl (by simp[mB])];by_cases e0:s=[112,111,108,105,99,121]
 ·subst e0;simp[mB,kw,kws]
 by_cases e1:s=[117,115,101,115]
 ·subst e1;simp[mB,kw,kws]
 by_cases e2:s=[114,101,118,101,97,108]
 ·subst e2;simp[mB,kw,kws]
 by_cases e3:s=[112,114,111,118,101]
 ·subst e3;simp[mB,kw,kws]
 by_cases e4:s=[115,99,111,112,101]
 ·subst e4;simp[mB,kw,kws]
 by_cases e5:s=[108,105,109,105,116]
 ·subst e5;simp[mB,kw,kws]
 by_cases e6:s=[101,115,99,114,111,119]
 ·subst e6;simp[mB,kw,kws]
 by_cases e7:s=[101,110,100]
 ·subst e7;simp[mB,kw,kws]
 by_cases e8:s=[97,108,108]
 ·subst e8;simp[mB,kw,kws]
 by_cases e9:s=[97,110,121]
 ·subst e9;simp[mB,kw,kws]
 by_cases e10:s=[97,116,108,101,97,115,116]
 ·subst e10;simp[mB,kw,kws]
 by_cases e11:s=[110,111,116]
 ·subst e11;simp[mB,kw,kws]
 by_cases e12:s=[116,114,117,101]
 ·subst e12;simp[mB,kw,kws]
 by_cases e13:s=[102,97,108,115,101]
 ·subst e13;simp[mB,kw,kws]
 by_cases e14:s=[98,101,116,119,101,101,110]
 ·subst e14;simp[mB,kw,kws]
 by_cases e15:s=[97,110,100]
 ·subst e15;simp[mB,kw,kws]
 by_cases e16:s=[105,110]
 ·subst e16;simp[mB,kw,kws]
 simp[mB,kw,kws,e0,e1,e2,e3,e4,e5,e6,e7,e8,e9,e10,e11,e12,e13,e14,e15,e16]
def E0(b:Bool)(c:UInt8):Bool ⊕ Unit:=if rV b (c.toNat:Int)=true then .inl false else .inr ()
theorem vo:∀ (s:Bs) (b:Bool),(rI b s=true->∃ b',iter E0 b s=.inl b')∧(rI b s=false->iter E0 b s=.inr ())
 | [],b=>⟨λ_=>⟨b,rfl⟩,λh=>by cases h⟩
 |c :: s,b=>by
  have ih:=vo s false;simp only[iter,rI,E0];by_cases h:rV b (c.toNat:Int)=true
  ·simp only[h,if_true,aeu];exact ih
  ·simp[h]
def E1(_:Unit)(c:UInt8):Unit ⊕ Unit:=if zP (c.toNat:Int)=true then .inl () else .inr ()
theorem vp:∀ (s:Bs),(tM s=true->iter E1 () s=.inl ())∧(tM s=false->iter E1 () s=.inr ())
 | []=>⟨λ_=>rfl,λh=>by cases h⟩
 |c :: s=>by
  have ih:=vp s;simp only[iter,tM,E1];by_cases h:zP (c.toNat:Int)=true
  ·simp only[h,if_true,aeu];exact ih
  ·simp[h]
theorem aH{α:Type}{l pre r:List α}{x:α}(hl:l=pre++x :: r)(hb:l.length<=140737488355328):((pre.length:Int)<(l.length:Int))∧l[pre.length]?=some x∧IntKind.i64.wrap ((pre.length:Int)+1)=(pre.length:Int)+1:=by
 have hlen:l.length=pre.length+(r.length+1):=by rw[hl];simp
 exact⟨by omega,by rw[hl];simp,wrap64 (by omega) (by omega)⟩
theorem f170(s:Bs)(hs:okS s)(h:Heap):(mu K).fn 170 [.str s] h=some (.val (.bool (aW s)) h):=by
 have acm:=λh=>f216 s h
 have key:=aD (K:=K) (n:=0) (live:=[0,5,6]) (a:=lM) E0
  (λpre b=>⟨[(0,.str s),(5,.int .i64 (s.length:Int)),(6,.int .i64 (pre.length:Int))],[] :: h⟩) (λpre b=>b=pre.isEmpty)
  (λb o=>∃ env,o=some (.exit 0,⟨env,[] :: h⟩)∧get env 0=.str s) (λ_ o=>∃ env,o=some (.ret,⟨env,[] :: h⟩)∧get env 2=.bool false) s
  (λpre x r b hl hb=>by
   obtain⟨h1,h2,w1⟩:=aH hl hs;have zQ:=λh=>f214 (x.toNat:Int) h
   have zR:=λh=>f215 (x.toNat:Int) h
   rw[au];generalize (mu K).code (.af 0 [0,5,6] lM)=F;have hb':((pre.length:Int)=0)=(b=true):=by rw[hb];cases pre<;>simp;omega
   have hb2:(pre=[])=(b=true):=by rw[hb];cases pre<;>simp
   clear hb hl;unfold E0 rV;by_cases c1:fQ (x.toNat:Int)=true
   ·simp[lM,KL,aa,h1,h2,zQ,zR,w1,c1]
   ·cases b
    ·by_cases c3:(x.toNat:Int)=95
     ·have d3:((x.toNat:Int)=95)=True:=by simp;omega
      simp[lM,KL,aa,h1,h2,zQ,zR,w1,c1,hb',hb2,d3]
     ·have d3:((x.toNat:Int)=95)=False:=by simp;omega
      by_cases c4:jG (x.toNat:Int)=true
      ·simp[lM,KL,aa,h1,h2,zQ,zR,w1,c1,hb',hb2,d3,c4]
      ·simp[lM,KL,aa,h1,h2,zQ,zR,w1,c1,hb',hb2,d3,c4]
    ·simp[lM,KL,aa,h1,h2,zQ,zR,w1,c1,hb',hb2])
  (λb _=>by
   rw[au];generalize (mu K).code (.af 0 [0,5,6] lM)=F;simp[lM]) true rfl
 rw[aB (KX _ _ _) XW rfl (by simp[KY])];cases hn:rI true s
 ·rw[(vo s true).2 hn]at key;obtain⟨env,k,g2⟩:=key;simp only[adZ,ad5]at k;simp[KY,KL,aa,k,g2,aW,hn]
 ·obtain⟨b',e⟩:=(vo s true).1 hn;rw[e]at key;obtain⟨_,env,k,g0⟩:=key;simp only[adZ,ad5]at k;unfold aW;by_cases e1:s=[]
  ·have d1:(s=[])=True:=by simp[e1]
   simp[KY,KL,aa,k,g0,d1]
  ·by_cases e2:(s.length:Int)<=32
   ·have e3:s.length<=32:=by omega
    simp[KY,KL,aa,k,g0,e1,e2,e3,acm,hn]
   ·have e3:¬ s.length<=32:=by omega
    simp[KY,KL,aa,k,g0,e1,e2,e3,hn]
theorem f171(s:Bs)(hs:okS s)(h:Heap):(mu K).fn 171 [.str s] h=some (.val (.bool (gG s)) h):=by
 have key:=aD (K:=K) (n:=0) (live:=[0,5,6]) (a:=lN) E1
  (λpre b=>⟨[(0,.str s),(5,.int .i64 (s.length:Int)),(6,.int .i64 (pre.length:Int))],[] :: h⟩) (λpre b=>True)
  (λb o=>∃ env,o=some (.exit 0,⟨env,[] :: h⟩)∧get env 0=.str s) (λ_ o=>∃ env,o=some (.ret,⟨env,[] :: h⟩)∧get env 2=.bool false) s
  (λpre x r b hl hb=>by
   obtain⟨h1,h2,w1⟩:=aH hl hs;have zQ:=λh=>f214 (x.toNat:Int) h
   have zR:=λh=>f215 (x.toNat:Int) h
   rw[au];generalize (mu K).code (.af 0 [0,5,6] lN)=F;clear hb hl;unfold E1 zP;by_cases c1:fQ (x.toNat:Int)=true
   ·simp[lN,KL,aa,h1,h2,zQ,zR,w1,c1]
   by_cases c2:jG (x.toNat:Int)=true
   ·simp[lN,KL,aa,h1,h2,zQ,zR,w1,c1,c2]
   by_cases c3:(x.toNat:Int)=45
   ·have d3:((x.toNat:Int)=45)=True:=by simp;omega
    simp[lN,KL,aa,h1,h2,zQ,zR,w1,c1,c2,d3]
   have d3:((x.toNat:Int)=45)=False:=by simp;omega
   by_cases c4:(x.toNat:Int)=95
   ·have d4:((x.toNat:Int)=95)=True:=by simp;omega
    simp[lN,KL,aa,h1,h2,zQ,zR,w1,c1,c2,d3,d4]
   ·have d4:((x.toNat:Int)=95)=False:=by simp;omega
    simp[lN,KL,aa,h1,h2,zQ,zR,w1,c1,c2,d3,d4])
  (λb _=>by
   rw[au];generalize (mu K).code (.af 0 [0,5,6] lN)=F;simp[lN]) () trivial
 rw[aB (KX _ _ _) XX rfl (by simp[KZ])];cases hn:tM s
 ·rw[(vp s).2 hn]at key;obtain⟨env,k,g2⟩:=key;simp only[adZ,ad5]at k;simp[KZ,KL,aa,k,g2,gG,hn]
 ·rw[(vp s).1 hn]at key;obtain⟨_,env,k,g0⟩:=key;simp only[adZ,ad5]at k;unfold gG;by_cases e1:s=[]
  ·have d1:(s=[])=True:=by simp[e1]
   simp[KZ,KL,aa,k,g0,d1]
  ·by_cases e2:(s.length:Int)<=32
   ·have e3:s.length<=32:=by omega
    simp[KZ,KL,aa,k,g0,e1,e2,e3,hn]
   ·have e3:¬ s.length<=32:=by omega
    simp[KZ,KL,aa,k,g0,e1,e2,e3,hn]
end Go.Ab.Pn
/-
  A node alone: the program.
-/
namespace Go.Ab.Pn
open Go.Ab.Pol
set_option maxRecDepth 100000
set_option maxHeartbeats 1000000
theorem f217(k:Int)(n:Nat)(h:Heap):(mu K).fn 217 [.int .i64 k,.int .i64 (n:Int)] h=some (.val (.bool (cQ k n)) h):=by
 rw[aB (KX _ _ _) XY rfl (by simp[rW])];unfold cQ;have n1:(1<=(n:Int))=(1<=n):=by simp;omega
 have n2:(2<=(n:Int))=(2<=n):=by simp;omega
 have n3:((n:Int)=1)=(n=1):=by simp;omega
 have n4:((n:Int)=2)=(n=2):=by simp;omega
 have n5:((n:Int)=3)=(n=3):=by simp;omega
 by_cases e0:k=0
 ·subst e0;simp[rW]
 by_cases e1:k=1
 ·subst e1;simp[rW]
 by_cases e9:k=9
 ·subst e9;simp[rW]
 by_cases e10:k=10
 ·subst e10;simp[rW]
 by_cases e11:k=11
 ·subst e11;simp[rW]
 by_cases e2:k=2
 ·subst e2;simp[rW,n3]
 by_cases e3:k=3
 ·subst e3;simp[rW,n1]
 by_cases e4:k=4
 ·subst e4;simp[rW,n1]
 by_cases e5:k=5
 ·subst e5;simp[rW,n1]
 by_cases e6:k=6
 ·subst e6;simp[rW,n4]
 by_cases e7:k=7
 ·subst e7;simp[rW,n5]
 by_cases e8:k=8
 ·subst e8;simp[rW,n2]
 simp[rW,e0,e1,e2,e3,e4,e5,e6,e7,e8,e9,e10,e11]
abbrev okN(x:Nd):Prop:=okS x.nm∧okS x.attr
theorem f218(x:Nd)(hx:okN x)(h:Heap):(mu K).fn 218 [x.av] h=some (.val (.bool (dS x)) h):=by
 have a1:=λh=>f170 x.nm hx.1 h
 have a2:=λh=>f170 x.attr hx.2 h
 have a3:=λh=>f171 x.nm hx.1 h
 rw[aB (KX _ _ _) XZ rfl (by simp[K0])];unfold dS;by_cases e9:x.k=9
 ·cases b1:aW x.nm<;>simp[K0,KL,aa,e9,a1,a2,b1]
 by_cases e11:x.k=11
 ·cases b1:gG x.nm<;>simp[K0,KL,aa,e9,e11,a3,b1]
 by_cases b1:x.nm=[]
 ·have d1:(x.nm=[])=True:=by simp[b1]
  simp[K0,KL,aa,e9,e11,d1]
 ·simp[K0,KL,aa,e9,e11,b1]
theorem f173(x:Nd)(c:Bool)(hx:okN x)(h:Heap):(mu K).fn 173 [x.av,.bool c] h=some (.val (.int .i64 (jX x c)) h):=by
 have rX:=λh=>f217 x.k x.kids.l.length h
 have vq:=λh=>f218 x hx h
 rw[aB (KX _ _ _) X0 rfl (by simp[nA])];unfold jX fE;by_cases c1:x.k<0
 ·have c1':¬ 0<=x.k:=by omega
  simp[nA,KL,aa,c1,c1']
 have c1':0<=x.k:=by omega
 by_cases c2:12<=x.k
 ·have c2':¬ x.k<12:=by omega
  simp[nA,KL,aa,c1,c1',c2,c2']
 have c2':x.k<12:=by omega
 cases c3:(decide (x.k<=8)==c)
 ·simp[nA,KL,aa,c1,c1',c2,c2',c3]
 cases c4:cQ x.k x.kids.l.length
 ·simp[nA,KL,aa,c1,c1',c2,c2',c3,c4,rX]
 cases c5:dS x
 ·simp[nA,KL,aa,c1,c1',c2,c2',c3,c4,c5,rX,vq]
 unfold EZ xe;have base:=rX;by_cases e5:x.k=5
 ·have d5:(x.k=5)=True:=by simp[e5]
  have d6:(x.k=6)=False:=by simp[e5]
  have d10:(x.k=10)=False:=by simp[e5]
  by_cases l1:x.num<1
  ·simp[nA,KL,aa,c1,c1',c2,c2',c3,c4,c5,rX,vq,d5,d6,d10,l1]
  by_cases l2:(x.kids.l.length:Int)<x.num
  ·simp[nA,KL,aa,c1,c1',c2,c2',c3,c4,c5,rX,vq,d5,d6,d10,l1,l2]
  ·simp[nA,KL,aa,c1,c1',c2,c2',c3,c4,c5,rX,vq,d5,d6,d10,l1,l2]
 have d5:(x.k=5)=False:=by simp[e5]
 by_cases e6:x.k=6
 ·have d6:(x.k=6)=True:=by simp[e6]
  have d10:(x.k=10)=False:=by simp[e6]
  by_cases l1:x.num<0
  ·simp[nA,KL,aa,c1,c1',c2,c2',c3,c4,c5,rX,vq,d5,d6,d10,l1]
  by_cases l2:5<x.num
  ·simp[nA,KL,aa,c1,c1',c2,c2',c3,c4,c5,rX,vq,d5,d6,d10,l1,l2]
  ·simp[nA,KL,aa,c1,c1',c2,c2',c3,c4,c5,rX,vq,d5,d6,d10,l1,l2]
 have d6:(x.k=6)=False:=by simp[e6]
 by_cases e10:x.k=10
 ·have d10:(x.k=10)=True:=by simp[e10]
  by_cases l1:x.num < -2147483648
  ·simp[nA,KL,aa,c1,c1',c2,c2',c3,c4,c5,rX,vq,d5,d6,d10,l1]
  by_cases l2:2147483647<x.num
  ·simp[nA,KL,aa,c1,c1',c2,c2',c3,c4,c5,rX,vq,d5,d6,d10,l1,l2]
  ·simp[nA,KL,aa,c1,c1',c2,c2',c3,c4,c5,rX,vq,d5,d6,d10,l1,l2]
 have d10:(x.k=10)=False:=by simp[e10]
 by_cases l1:x.num<0
 ·simp[nA,KL,aa,c1,c1',c2,c2',c3,c4,c5,rX,vq,d5,d6,d10,l1]
 by_cases l2:0<x.num
 ·simp[nA,KL,aa,c1,c1',c2,c2',c3,c4,c5,rX,vq,d5,d6,d10,l1,l2]
 ·simp[nA,KL,aa,c1,c1',c2,c2',c3,c4,c5,rX,vq,d5,d6,d10,l1,l2]
end Go.Ab.Pn
/-
  The nodes of a policy: the program's visit.
-/
namespace Go.Ab.Pn
open Go.Ab.Pol
set_option maxRecDepth 100000
set_option maxHeartbeats 1000000
/- A frame below others. -/
theorem bf(T:List (List Blk))(F:List Blk)(o:Heap)(i:Nat):hget (T++F :: o) (o.length,i)=F[i]?:=by
 induction T with
 |nil=>simp[hget]
 |cons f T ih=>
  simp only[ad4,hget,ad9,ad1];rw[if_neg (by omega)];exact ih
theorem dW(T:List (List Blk))(F:List Blk)(o:Heap)(i:Nat)(B:Blk):aR (T++F :: o) (o.length,i) B=T++F.set i B :: o:=by
 induction T with
 |nil=>simp[aR]
 |cons f T ih=>
  simp only[ad4,aR,ad9,ad1];rw[if_neg (by omega),ih]
def tN(seen:List Int):List (AV×AV):=seen.map λi=>(.int .i64 i,.bool true)
theorem Cw(i:Int):∀ seen:List Int,fY (.one .int) (.int .i64 i) (tN seen)=some (if i∈seen then some (.bool true) else none)
 | []=>rfl
 |j :: seen=>by
  have ih:=Cw i seen;unfold tN at ih ⊢;simp only[Io,fY,eqK,eqF,if_true];by_cases e:i=j
  ·subst e;simp
  ·simp[e,ih]
theorem E3(i:Int):∀ seen:List Int,i∉seen->rY (.one .int) (.int .i64 i) (.bool true) (tN seen)=some (tN (seen++[i]))
 | [],_=>rfl
 |j :: seen,h=>by
  simp only[adY,not_or]at h;have ih:=E3 i seen h.2;unfold tN at ih ⊢;simp only[Io,ad4,rY,eqK,eqF,if_true];simp[h.1,ih]
abbrev TF(p:Po)(seen:List Int)(o:Heap):Heap:=
 [.box 26 false p.av,.map (tN seen),.box 256 false (.mp (o.length,1)),.box 257 false (.fn (.func 172) [] [.ptr (o.length,0) 0,.ptr (o.length,2) 0,.ptr (o.length,3) 0])] :: o
abbrev okP(p:Po):Prop:=p.nodes.l.length<=1000∧(∀ n∈p.nodes.l,okN n∧n.kids.l.length<=1000)
theorem Cx(v:Int->List Int->Int×List Int):∀ (ks:List Int) (seen:List Int),
  ((lO v ks seen).1=0->iter (λseen k=>if (v k seen).1=0 then (.inl (v k seen).2:List Int ⊕ (Int×List Int)) else .inr (v k seen)) seen ks=.inl (lO v ks seen).2) ∧
  ((lO v ks seen).1≠0->iter (λseen k=>if (v k seen).1=0 then (.inl (v k seen).2:List Int ⊕ (Int×List Int)) else .inr (v k seen)) seen ks=.inr (lO v ks seen))
 | [],seen=>⟨λ_=>rfl,λh=>absurd rfl h⟩
 |k :: ks,seen=>by
  have ih:=Cx v ks (v k seen).2;simp only[iter,lO];by_cases h:(v k seen).1=0
  ·simp only[h,if_true];exact ih
  ·rw[if_neg h,if_neg h];exact⟨λq=>absurd q h,λ_=>rfl⟩
theorem f172(p:Po)(hp:okP p)(o:Heap):∀ (f:Nat) (i:Int) (c:Bool) (seen:List Int) (T:List (List Blk)),f<=32 ->
  (mu K).fn 172 [.int .i64 i,.int .i64 (33-(f:Int)),.bool c,.ptr (o.length,0) 0,.ptr (o.length,2) 0,.ptr (o.length,3) 0] (T++TF p seen o) =
   some (.val (.int .i64 (vis p.nodes.l f i c seen).1) (T++TF p (vis p.nodes.l f i c seen).2 o))
 |f,i,c,seen,T,hf=>by
  have ne:(o.length=T.length+(o.length+1))=False:=by simp;omega
  have ls:=Cw i seen;rw[aB (KX _ _ _) X3 rfl (by simp[DR])];by_cases b1:i<0
  ·have e:vis p.nodes.l f i c seen=(3,seen):=by
    have:lu p.nodes.l i seen=true:=by simp[lu,b1]
    cases f<;>simp[vis,this]
   rw[e];simp[DR,KL,aa,b1]
  by_cases b2:(p.nodes.l.length:Int)<=i
  ·have e:vis p.nodes.l f i c seen=(3,seen):=by
    have:lu p.nodes.l i seen=true:=by simp[lu,b2]
    cases f<;>simp[vis,this]
   rw[e];simp[DR,KL,aa,b1,b2,ne,bf]
  by_cases b3:i∈seen
  ·have e:vis p.nodes.l f i c seen=(3,seen):=by
    have:lu p.nodes.l i seen=true:=by simp[lu,b3]
    cases f<;>simp[vis,this]
   rw[e];simp[DR,KL,aa,b1,b2,b3,ne,bf,eqK,eqF,ls]
  have hb:lu p.nodes.l i seen=false:=qG.2 ⟨by omega,by omega,b3⟩;cases f with
  |zero=>
   have e:vis p.nodes.l 0 i c seen=(7,seen):=by simp[vis,hb]
   rw[e];simp[DR,KL,aa,b1,b2,b3,ne,bf,eqK,eqF,ls]
  |succ f=>
   obtain⟨n,hnd⟩:∃ n,p.nodes.l[i.toNat]?=some n:=⟨_,aea (by omega)⟩
   have hmem:n∈p.nodes.l:=aee hnd;obtain⟨hok,hkl⟩:=hp.2 n hmem;have i0:0<=i:=by omega
   have TK:=λh=>f173 n c hok h
   have us:=E3 i seen b3;have hia:=λ(k:IntKind)=>aG (av:=Nd.av) (sz:=6) (s:=p.nodes) (k:=k) (j:=i) (x:=n) i0 hnd rfl
   have hd:¬ (32:Int)<33-((f:Int)+1):=by omega
   have e0:vis p.nodes.l (f+1) i c seen=if jX n c=0 then lO (λk s=>vis p.nodes.l f k (decide (n.k<=5)) s) n.kids.l (seen++[i]) else (jX n c,seen++[i]):=by
    rw[vis,hb];simp[hnd]
   rw[e0];by_cases hfe:jX n c=0
   case neg=>
    rw[if_neg hfe];simp[DR,KL,aa,b1,b2,b3,ne,bf,dW,eqK,eqF,ls,us,hd,hia,TK,hfe]
   rw[if_pos hfe];have key:=aD (K:=K) (n:=1) (live:=[1,5,10,47,48,49]) (a:=rZ) (λs k=>if (vis p.nodes.l f k (decide (n.k<=5)) s).1=0 then (.inl (vis p.nodes.l f k (decide (n.k<=5)) s).2:List Int ⊕ (Int×List Int)) else .inr (vis p.nodes.l f k (decide (n.k<=5)) s))
    (λpre s=>⟨[(1,.int .i64 (33-((f:Int)+1))),(5,.ptr (o.length,3) 0),(10,.ptr (T.length+(o.length+1),0) 0),(47,n.kids.avS iV),(48,.int .i64 (n.kids.l.length:Int)),(49,.int .i64 (pre.length:Int))],[.box 90 false n.av] :: (T++TF p s o)⟩)
    (λ_ _=>True)
    (λs r=>∃ env,r=some (.exit 1,⟨env,[.box 90 false n.av] :: (T++TF p s o)⟩))
    (λr q=>∃ env,q=some (.ret,⟨env,[.box 90 false n.av] :: (T++TF p r.2 o)⟩)∧get env 9=.int .i64 r.1) n.kids.l
    (λpre x r s hl _=>by
     obtain⟨h1,h2,w1⟩:=aH hl (by omega);have ih:=f172 p hp o f x (decide (n.k<=5)) s ([.box 90 false n.av] :: T) (by omega);have hix:=λ(k:IntKind)=>aG (av:=iV) (sz:=1) (s:=n.kids) (k:=k) (j:=(pre.length:Int)) (x:=x) (by omega) (by simpa using h2) rfl
     have wd:IntKind.i64.wrap (33-((f:Int)+1)+1)=33-(f:Int):=by rw[wrap64 (by omega) (by omega)];omega
     simp only[ad4]at ih;rw[au];generalize (mu K).code (.af 1 [1,5,10,47,48,49] rZ)=F;clear hl;generalize vis p.nodes.l f x (decide (n.k<=5)) s=R at *
     obtain⟨e,s'⟩:=R;by_cases he:e=0
     ·subst he;simp[rZ,KL,aa,h1,hix,w1,wd,ih,ne,bf]
     ·simp[rZ,KL,aa,h1,hix,w1,wd,ih,ne,bf,he])
    (λs _=>by
     rw[au];generalize (mu K).code (.af 1 [1,5,10,47,48,49] rZ)=F;simp[rZ]) (seen++[i]) trivial
   obtain⟨v1,v2⟩:=Cx (λk s=>vis p.nodes.l f k (decide (n.k<=5)) s) n.kids.l (seen++[i]);generalize lO (λk s=>vis p.nodes.l f k (decide (n.k<=5)) s) n.kids.l (seen++[i])=R at *
   obtain⟨e,s'⟩:=R;simp only[adZ,ad5]at key;by_cases he:e=0
   ·subst he;rw[v1 rfl]at key;obtain⟨_,env,k⟩:=key;simp[DR,KL,aa,b1,b2,b3,ne,bf,dW,eqK,eqF,ls,us,hd,hia,TK,hfe,k]
   ·rw[v2 he]at key;obtain⟨env,k,g9⟩:=key;simp[DR,KL,aa,b1,b2,b3,ne,bf,dW,eqK,eqF,ls,us,hd,hia,TK,hfe,k,g9]
theorem f111(p:Po)(hp:okP p)(h:Heap):(mu K).fn 111 [p.av] h=some (.val (.int .i64 (lA p)) h):=by
 have k:=f172 p hp h 32 p.root true [] [] (by omega);have e1:(33-((32:Nat):Int))=1:=rfl;rw[e1]at k;simp only[aeb]at k;unfold lA;generalize vis p.nodes.l 32 p.root true []=R at *
 obtain⟨e,s⟩:=R;have hln:(tN s).length=s.length:=by simp[tN]
 have e0:tN []=[]:=rfl;simp only[TF,e0]at k;rw[aB (KX _ _ _) X4 rfl (by simp[MD])];by_cases he:e=0
 ·subst he;by_cases hl:s.length=p.nodes.l.length
  ·have hl2:((s.length:Int)=(p.nodes.l.length:Int))=True:=by simp;omega
   simp[MD,KL,aa,k,hl2,hl,hln]
  ·have hl2:((s.length:Int)=(p.nodes.l.length:Int))=False:=by simp;omega
   simp[MD,KL,aa,k,hl2,hl,hln]
 ·simp[MD,KL,aa,k,he]
end Go.Ab.Pn
/-
  Names of a policy, and what occurs twice: the program.
-/
namespace Go.Ab.Pn
open Go.Ab.Pol
set_option maxRecDepth 100000
set_option maxHeartbeats 1000000
/- Maps as sets. -/
def fZ{α:Type}(kv:α->AV)(l:List α):List (AV×AV):=l.map λx=>(kv x,.bool true)
theorem jQ{α:Type}[DecidableEq α]{kk:KK}{kv:α->AV}(H:∀ x y,eqK kk (kv x) (kv y)=some (decide (x=y)))(x:α):∀ l:List α,fY kk (kv x) (fZ kv l)=some (if x∈l then some (.bool true) else none)
 | []=>rfl
 |y :: l=>by
  have ih:=jQ H x l;unfold fZ at ih ⊢;simp only[Io,fY,H];by_cases e:x=y
  ·subst e;simp
  ·simp[e,ih]
theorem mC{α:Type}[DecidableEq α]{kk:KK}{kv:α->AV}(H:∀ x y,eqK kk (kv x) (kv y)=some (decide (x=y)))(x:α):∀ l:List α,x∉l->rY kk (kv x) (.bool true) (fZ kv l)=some (fZ kv (l++[x]))
 | [],_=>rfl
 |y :: l,h=>by
  simp only[adY,not_or]at h;have ih:=mC H x l h.2;unfold fZ at ih ⊢;simp only[Io,ad4,rY,H];simp[h.1,ih]
theorem iY{α:Type}{kv:α->AV}(p:Loc->Bool)(l:List α):(fZ kv l).all (λx=>x.2.aJ p)=true:=by
 unfold fZ;simp
theorem vv(x y:Bs):eqK (.one .str) (.str x) (.str y)=some (decide (x=y)):=rfl
theorem ME(x y:Rf):eqK (.st [.str,.str]) x.av y.av=some (decide (x=y)):=by
 obtain⟨a,b⟩:=x;obtain⟨c,d⟩:=y;simp only[Rf.av,Rf.cs,eqK,dN,eqF]
 congr 1
 rw[aem];simp
def twF{α:Type}[DecidableEq α](met:List α)(x:α):List α ⊕ Unit:=if x∈met then .inr () else .inl (met++[x])
theorem tO{α:Type}[DecidableEq α]:∀ (l met:List α),met.Nodup->((met++l).Nodup->iter twF met l=.inl (met++l))∧(¬ (met++l).Nodup->iter twF met l=.inr ())
 | [],met,h=>⟨λ_=>by simp[iter],λq=>absurd h (by simpa using q)⟩
 |x :: l,met,h=>by
  simp only[iter,twF];by_cases hx:x∈met
  ·rw[if_pos hx];refine⟨λq=>?_,λ_=>rfl⟩;have:=(aeQ.1 q).2.2 x hx x (by simp);exact absurd rfl this
  ·rw[if_neg hx];have hn:(met++[x]).Nodup:=by
    rw[aeQ];exact⟨h,by simp,λa ha b hb e=>by
     simp only[aed]at hb;rw[e,hb]at ha;exact hx ha⟩
   have ih:=tO l (met++[x]) hn;simpa using ih
theorem f112(nl:Bool)(l:List Bs)(hl:l.length<=1000000)(h:Heap):(mu K).fn 112 [lv nl (l.map AV.str)] h=some (.val (.bool (decide (¬ l.Nodup))) h):=by
 have key:=aD (K:=K) (n:=1) (live:=[3,7,8,9]) (a:=sj) twF
  (λpre met=>⟨[(3,.mp (h.length,0)),(7,lv nl (l.map AV.str)),(8,.int .i64 (l.length:Int)),(9,.int .i64 (pre.length:Int))],[.map (fZ AV.str met)] :: h⟩) (λ_ _=>True)
  (λmet o=>∃ env,o=some (.exit 0,⟨env,[.map (fZ AV.str met)] :: h⟩)) (λ_ o=>∃ env Fr,o=some (.ret,⟨env,Fr :: h⟩)∧get env 2=.bool true) l
  (λpre x r met hl' _=>by
   obtain⟨h1,h2,w1⟩:=aH hl' (by omega);have hix:=λ(k:IntKind)=>nB (sz:=1) (nl:=nl) (l:=l.map AV.str) (k:=k) (j:=(pre.length:Int)) (v:=.str x) (by omega) (by simpa using h2) rfl
   have lk:=jQ vv x met;have uk:=mC vv x met;rw[au];generalize (mu K).code (.af 1 [3,7,8,9] sj)=F;clear hl';unfold twF;by_cases hx:x∈met
   ·simp[sj,KL,aa,h1,hix,w1,eqK,eqF,lk,hx]
   ·have uk:=uk hx;simp[sj,KL,aa,h1,hix,w1,eqK,eqF,lk,uk,hx])
  (λmet _=>by
   rw[au];generalize (mu K).code (.af 1 [3,7,8,9] sj)=F;simp[sj]) [] trivial
 simp only[adZ,ad5]at key;have e0:fZ AV.str []=[]:=rfl;rw[aB (KX _ _ _) X5 rfl (by simp[Qm])];obtain⟨t1,t2⟩:=tO l [] (by simp);simp only[aeb]at t1 t2;by_cases hn:l.Nodup
 ·rw[t1 hn]at key;obtain⟨_,env,k⟩:=key;rw[e0]at k;simp[Qm,KL,aa,k,hn]
 ·rw[t2 hn]at key;obtain⟨env,Fr,k,g2⟩:=key;rw[e0]at k;simp[Qm,KL,aa,k,g2,hn]
theorem f113(nl:Bool)(l:List Rf)(hl:l.length<=1000000)(h:Heap):(mu K).fn 113 [lv nl (l.map Rf.av)] h=some (.val (.bool (decide (¬ l.Nodup))) h):=by
 have key:=aD (K:=K) (n:=1) (live:=[3,7,8,9]) (a:=su) twF
  (λpre met=>⟨[(3,.mp (h.length,0)),(7,lv nl (l.map Rf.av)),(8,.int .i64 (l.length:Int)),(9,.int .i64 (pre.length:Int))],[.map (fZ Rf.av met)] :: h⟩) (λ_ _=>True)
  (λmet o=>∃ env,o=some (.exit 0,⟨env,[.map (fZ Rf.av met)] :: h⟩)) (λ_ o=>∃ env Fr,o=some (.ret,⟨env,Fr :: h⟩)∧get env 2=.bool true) l
  (λpre x r met hl' _=>by
   obtain⟨h1,h2,w1⟩:=aH hl' (by omega);have hix:=λ(k:IntKind)=>nB (sz:=2) (nl:=nl) (l:=l.map Rf.av) (k:=k) (j:=(pre.length:Int)) (v:=x.av) (by omega) (by rw[aev,aeh,h2];rfl) rfl
   have lk:=jQ ME x met;have uk:=mC ME x met;have kq:=ME x x;have kr:=λp=>iY (kv:=Rf.av) p met
   have kr2:=λp=>iY (kv:=Rf.av) p (met++[x])
   rw[au];generalize (mu K).code (.af 1 [3,7,8,9] su)=F;clear hl';unfold twF;by_cases hx:x∈met
   ·simp[su,KL,aa,h1,hix,w1,kq,lk,hx]
   ·have uk:=uk hx;simp[-List.all_eq_true,su,KL,aa,h1,hix,w1,kq,lk,uk,hx,kr,kr2])
  (λmet _=>by
   rw[au];generalize (mu K).code (.af 1 [3,7,8,9] su)=F;simp[su]) [] trivial
 simp only[adZ,ad5]at key;have e0:fZ Rf.av []=[]:=rfl;rw[aB (KX _ _ _) X6 rfl (by simp[Qn])];obtain⟨t1,t2⟩:=tO l [] (by simp);simp only[aeb]at t1 t2;by_cases hn:l.Nodup
 ·rw[t1 hn]at key;obtain⟨_,env,k⟩:=key;rw[e0]at k;simp[Qn,KL,aa,k,hn]
 ·rw[t2 hn]at key;obtain⟨env,Fr,k,g2⟩:=key;rw[e0]at k;simp[Qn,KL,aa,k,g2,hn]
end Go.Ab.Pn
/-
  Names of a policy;the aliases: the program.
-/
namespace Go.Ab.Pn
open Go.Ab.Pol
set_option maxRecDepth 100000
set_option maxHeartbeats 1000000
abbrev okU(u:Us):Prop:=okS u.al∧okS u.sc
abbrev okR(r:Rf):Prop:=okS r.al∧okS r.attr
structure Sz (p:Po):Prop where
 name:okS p.name
 scope:okS p.scope
 cD:okS p.cD
 uses:p.uses.l.length<=1000∧∀ u∈p.uses.l,okU u
 aA:p.aA.l.length<=1000∧∀ r∈p.aA.l,okR r
 nodes:okP p
theorem E4{α:Type}(g:α->Bool):∀ (l:List α) (b:Bool),iter (λ(b:Bool) (x:α)=>(.inl (b&&g x):Bool ⊕ Unit)) b l=.inl (b&&l.all g)
 | [],b=>by simp[iter]
 |x :: l,b=>by simp[iter,E4 g l,Bool.and_assoc]
theorem f110(p:Po)(hp:Sz p)(h:Heap):(mu K).fn 110 [p.av] h=some (.val (.bool (lB p)) h):=by
 have k1:=λh=>f170 p.name hp.name h
 have k2:=λh=>f170 p.cD hp.cD h
 have k3:=λh=>f171 p.scope hp.scope h
 have oG:=λ(b0:Bool)=>aD (K:=K) (n:=1) (live:=[1,3,32,33,34]) (a:=oN) (λ(b:Bool) (u:Us)=>(.inl (b&&(aW u.al&&aW u.sc)):Bool ⊕ Unit))
  (λpre b=>⟨[(1,.ptr (h.length,0) 0),(3,.bool b),(32,p.uses.avS Us.av),(33,.int .i64 (p.uses.l.length:Int)),(34,.int .i64 (pre.length:Int))],[.box 26 false p.av] :: h⟩) (λ_ _=>True)
  (λb o=>∃ env,o=some (.exit 0,⟨env,[.box 26 false p.av] :: h⟩)∧get env 1=.ptr (h.length,0) 0∧get env 3=.bool b) (λ_ _=>False) p.uses.l
  (λpre x r b hl _=>by
   obtain⟨h1,h2,w1⟩:=aH hl (by have:=hp.uses.1;omega);have hx:=hp.uses.2 x (by rw[hl];simp);have hix:=λ(k:IntKind)=>aG (av:=Us.av) (sz:=2) (s:=p.uses) (k:=k) (j:=(pre.length:Int)) (x:=x) (by omega) (by simpa using h2) rfl
   have q1:=λh=>f170 x.al hx.1 h
   have q2:=λh=>f170 x.sc hx.2 h
   rw[au];generalize (mu K).code (.af 1 [1,3,32,33,34] oN)=F;clear hl;refine⟨λb' e=>⟨trivial,?_⟩,λ_ e=>by cases e⟩;injection e with e
   subst e;cases b
   ·simp[oN,KL,aa,h1,hix,w1]
   ·cases c1:aW x.al
    ·simp[oN,KL,aa,h1,hix,w1,q1,c1]
    ·simp[oN,KL,aa,h1,hix,w1,q1,q2,c1])
  (λb _=>by
   rw[au];generalize (mu K).code (.af 1 [1,3,32,33,34] oN)=F;simp[oN]) b0 trivial
 have lQ:=λ(b0:Bool)=>aD (K:=K) (n:=1) (live:=[3,51,52,53]) (a:=oO) (λ(b:Bool) (u:Rf)=>(.inl (b&&(aW u.al&&aW u.attr)):Bool ⊕ Unit))
  (λpre b=>⟨[(3,.bool b),(51,p.aA.avS Rf.av),(52,.int .i64 (p.aA.l.length:Int)),(53,.int .i64 (pre.length:Int))],[.box 26 false p.av] :: h⟩) (λ_ _=>True)
  (λb o=>∃ env,o=some (.exit 2,⟨env,[.box 26 false p.av] :: h⟩)∧get env 3=.bool b) (λ_ _=>False) p.aA.l
  (λpre x r b hl _=>by
   obtain⟨h1,h2,w1⟩:=aH hl (by have:=hp.aA.1;omega);have hx:=hp.aA.2 x (by rw[hl];simp);have hix:=λ(k:IntKind)=>aG (av:=Rf.av) (sz:=2) (s:=p.aA) (k:=k) (j:=(pre.length:Int)) (x:=x) (by omega) (by simpa using h2) rfl
   have q1:=λh=>f170 x.al hx.1 h
   have q2:=λh=>f170 x.attr hx.2 h
   rw[au];generalize (mu K).code (.af 1 [3,51,52,53] oO)=F;clear hl;refine⟨λb' e=>⟨trivial,?_⟩,λ_ e=>by cases e⟩;injection e with e
   subst e;cases b
   ·simp[oO,KL,aa,h1,hix,w1]
   ·cases c1:aW x.al
    ·simp[oO,KL,aa,h1,hix,w1,q1,c1]
    ·simp[oO,KL,aa,h1,hix,w1,q1,q2,c1])
  (λb _=>by
   rw[au];generalize (mu K).code (.af 1 [3,51,52,53] oO)=F;simp[oO]) b0 trivial
 simp only[E4,adZ,ad5]at oG lQ;obtain⟨_,e0,a0,a1,a2⟩:=oG (aW p.name&&(decide (p.cD=[]) ||aW p.cD)&&(decide (p.scope=[]) ||gG p.scope));obtain⟨_,e1,b0,b1⟩:=lQ (aW p.name&&(decide (p.cD=[]) ||aW p.cD)&&(decide (p.scope=[]) ||gG p.scope)&&p.uses.l.all (λu=>aW u.al&&aW u.sc));have en:lB p=(aW p.name&&(decide (p.cD=[]) ||aW p.cD)&&(decide (p.scope=[]) ||gG p.scope)&&p.uses.l.all (λu=>aW u.al&&aW u.sc)&&p.aA.l.all (λr=>aW r.al&&aW r.attr)):=rfl;rw[en];generalize p.uses.l.all (λu=>aW u.al&&aW u.sc)=A at *
 generalize p.aA.l.all (λr=>aW r.al&&aW r.attr)=B at *
 rw[aB (KX _ _ _) X7 rfl (by simp[E5])];cases c1:aW p.name
 ·simp only[c1,ae7]at *
  simp[E5,KL,aa,k1,c1,a0,a1,a2,b0,b1]
 ·by_cases c2:p.cD=[]
  ·have d2:(p.cD=[])=True:=by simp[c2]
   by_cases c3:p.scope=[]
   ·have d3:(p.scope=[])=True:=by simp[c3]
    simp only[c1,d2,d3,decide_true,afp,aeu,ae3]at a0 a2 b0 b1;simp[E5,KL,aa,k1,c1,d2,d3,a0,a1,a2,b0,b1]
   ·have d3:(p.scope=[])=False:=by simp[c3]
    simp only[c1,d2,d3,decide_true,decide_false,ae8,afp,aeu,ae3]at a0 a2 b0 b1;simp[E5,KL,aa,k1,k3,c1,d2,d3,a0,a1,a2,b0,b1]
  ·have d2:(p.cD=[])=False:=by simp[c2]
   cases c4:aW p.cD
   ·simp only[c1,c4,d2,decide_false,ae8,aeu,ae7]at a0 a2 b0 b1;simp[E5,KL,aa,k1,k2,c1,c4,d2,a0,a1,a2,b0,b1]
   ·by_cases c3:p.scope=[]
    ·have d3:(p.scope=[])=True:=by simp[c3]
     simp only[c1,c4,d2,d3,decide_true,decide_false,ae8,afp,aeu,ae3]at a0 a2 b0 b1;simp[E5,KL,aa,k1,k2,c1,c4,d2,d3,a0,a1,a2,b0,b1]
    ·have d3:(p.scope=[])=False:=by simp[c3]
     simp only[c1,c4,d2,d3,decide_true,decide_false,ae8,afp,aeu,ae3]at a0 a2 b0 b1;simp[E5,KL,aa,k1,k2,k3,c1,c4,d2,d3,a0,a1,a2,b0,b1]
end Go.Ab.Pn
/-
  The form's reading of policies and schemas, as values of the oP.
-/
namespace Go.Ab.Pn
open Go.Ab.Pol
open Go.Proofs Go.ChangeMaps Go.ChangeShapes Go.WideShapes Go.RowKit
set_option maxRecDepth 100000
theorem TL(nl:Bool)(l:List AV):slv nl l=lv nl l:=by cases l<;>rfl
def Rd{α:Type}(tt:TT)(av:α->AV)(ok:α->Prop):Prop:=∀ v:AV,v.isAgg=tt.agg->tt.Has v.cells->∃ x,v=av x∧ok x
abbrev okI(k:IntKind)(n:Int):Prop:=(Lit.int k n).wf=true
theorem jH:Rd .str AV.str okS:=λv h1 h2=>Qo h1 h2
theorem lR(k:IntKind):Rd (.int k) (AV.int k) (okI k):=λv h1 h2=>Qp h1 h2
abbrev oH{α:Type}(ok:α->Prop)(s:Sl α):Prop:=s.l.length<=140737488355328∧∀ x∈s.l,ok x
theorem tP{α:Type}{e:TT}{av:α->AV}{ok:α->Prop}(H:Rd e av ok):Rd (.slice e) (λs:Sl α=>s.avS av) (oH ok):=λv h1 h2=>by
 obtain⟨nl,l,e,h3,h4⟩:=K1 H h1 h2;exact⟨⟨nl,l⟩,by rw[e,TL];rfl,h3,h4⟩
theorem bP{α:Type}{t:TT}{av:α->AV}{ok:α->Prop}{cs:List AV}(ht:t.agg=false)(H:Rd t av ok)(h:t.Has cs):∃ x,cs=[av x]∧ok x:=by
 obtain⟨v,rfl,h1,h2⟩:=Qq ht h;obtain⟨x,rfl,k⟩:=H v h1 h2;exact⟨x,rfl,k⟩
theorem jR{α:Type}{fs:List TT}{cs:α->List AV}{ok:α->Prop}(H:∀ l,TT.tQ fs l->∃ x,l=cs x∧ok x):Rd (.struct fs) (λx=>.agg (cs x)) ok:=λv h1 h2=>by
 obtain⟨x,hx,k⟩:=H v.cells h2;exact⟨x,by have k:=TM h1;rw[hx]at k;exact k,k⟩
abbrev X8:List TT:=[.str,.str]
abbrev X9:TT:=.struct X8
structure aUs (x:Pol.Us):Prop where
 al:okS x.al
 sc:okS x.sc
theorem Ya(l:List AV)(h:TT.tQ X8 l):∃ x:Pol.Us,l=Pol.Us.cs x∧aUs x:=by
 obtain⟨a0,b0,rfl,p0,q0⟩:=bu h;obtain⟨x0,rfl,y0⟩:=bP rfl jH p0;obtain⟨a1,b1,rfl,p1,q1⟩:=bu q0;obtain⟨x1,rfl,y1⟩:=bP rfl jH p1;obtain rfl:=nC q1;exact⟨⟨x0,x1⟩,rfl,⟨y0,y1⟩⟩
theorem Yb:Rd X9 Pol.Us.av aUs:=jR Ya
abbrev Yc:List TT:=[.str,.str]
abbrev Yd:TT:=.struct Yc
structure aRf (x:Pol.Rf):Prop where
 al:okS x.al
 attr:okS x.attr
theorem Ye(l:List AV)(h:TT.tQ Yc l):∃ x:Pol.Rf,l=Pol.Rf.cs x∧aRf x:=by
 obtain⟨a0,b0,rfl,p0,q0⟩:=bu h;obtain⟨x0,rfl,y0⟩:=bP rfl jH p0;obtain⟨a1,b1,rfl,p1,q1⟩:=bu q0;obtain⟨x1,rfl,y1⟩:=bP rfl jH p1;obtain rfl:=nC q1;exact⟨⟨x0,x1⟩,rfl,⟨y0,y1⟩⟩
theorem Yf:Rd Yd Pol.Rf.av aRf:=jR Ye
abbrev Yg:List TT:=[(.int .i64),(.int .i64),.str,.str,(.slice (.int .i64)),(.int .i64)]
abbrev Yh:TT:=.struct Yg
structure aNd (x:Pol.Nd):Prop where
 k:okI .i64 x.k
 num:okI .i64 x.num
 nm:okS x.nm
 attr:okS x.attr
 kids:oH (okI .i64) x.kids
 pos:okI .i64 x.pos
theorem Yi(l:List AV)(h:TT.tQ Yg l):∃ x:Pol.Nd,l=Pol.Nd.cs x∧aNd x:=by
 obtain⟨a0,b0,rfl,p0,q0⟩:=bu h;obtain⟨x0,rfl,y0⟩:=bP rfl (lR .i64) p0;obtain⟨a1,b1,rfl,p1,q1⟩:=bu q0;obtain⟨x1,rfl,y1⟩:=bP rfl (lR .i64) p1;obtain⟨a2,b2,rfl,p2,q2⟩:=bu q1;obtain⟨x2,rfl,y2⟩:=bP rfl jH p2;obtain⟨a3,b3,rfl,p3,q3⟩:=bu q2;obtain⟨x3,rfl,y3⟩:=bP rfl jH p3;obtain⟨a4,b4,rfl,p4,q4⟩:=bu q3;obtain⟨x4,rfl,y4⟩:=bP rfl (tP (lR .i64)) p4;obtain⟨a5,b5,rfl,p5,q5⟩:=bu q4;obtain⟨x5,rfl,y5⟩:=bP rfl (lR .i64) p5;obtain rfl:=nC q5;exact⟨⟨x0,x1,x2,x3,x4,x5⟩,rfl,⟨y0,y1,y2,y3,y4,y5⟩⟩
theorem Yj:Rd Yh Pol.Nd.av aNd:=jR Yi
abbrev Yk:List TT:=[.str,(.slice X9),(.slice Yd),(.slice Yh),(.int .i64),.str,(.int .i64),.str]
abbrev acn:TT:=.struct Yk
structure aPo (x:Pol.Po):Prop where
 name:okS x.name
 uses:oH aUs x.uses
 aA:oH aRf x.aA
 nodes:oH aNd x.nodes
 root:okI .i64 x.root
 scope:okS x.scope
 limit:okI .i64 x.limit
 cD:okS x.cD
theorem Yl(l:List AV)(h:TT.tQ Yk l):∃ x:Pol.Po,l=Pol.Po.cs x∧aPo x:=by
 obtain⟨a0,b0,rfl,p0,q0⟩:=bu h;obtain⟨x0,rfl,y0⟩:=bP rfl jH p0;obtain⟨a1,b1,rfl,p1,q1⟩:=bu q0;obtain⟨x1,rfl,y1⟩:=bP rfl (tP Yb) p1;obtain⟨a2,b2,rfl,p2,q2⟩:=bu q1;obtain⟨x2,rfl,y2⟩:=bP rfl (tP Yf) p2;obtain⟨a3,b3,rfl,p3,q3⟩:=bu q2;obtain⟨x3,rfl,y3⟩:=bP rfl (tP Yj) p3;obtain⟨a4,b4,rfl,p4,q4⟩:=bu q3;obtain⟨x4,rfl,y4⟩:=bP rfl (lR .i64) p4;obtain⟨a5,b5,rfl,p5,q5⟩:=bu q4;obtain⟨x5,rfl,y5⟩:=bP rfl jH p5;obtain⟨a6,b6,rfl,p6,q6⟩:=bu q5;obtain⟨x6,rfl,y6⟩:=bP rfl (lR .i64) p6;obtain⟨a7,b7,rfl,p7,q7⟩:=bu q6;obtain⟨x7,rfl,y7⟩:=bP rfl jH p7;obtain rfl:=nC q7;exact⟨⟨x0,x1,x2,x3,x4,x5,x6,x7⟩,rfl,⟨y0,y1,y2,y3,y4,y5,y6,y7⟩⟩
abbrev Ym:List TT:=[.str,(.int .i64),(.int .i64),(.int .i64),(.slice .str)]
abbrev Yn:TT:=.struct Ym
structure aFd (x:Pol.Fd):Prop where
 name:okS x.name
 kind:okI .i64 x.kind
 mn:okI .i64 x.mn
 mx:okI .i64 x.mx
 words:oH okS x.words
theorem Yo(l:List AV)(h:TT.tQ Ym l):∃ x:Pol.Fd,l=Pol.Fd.cs x∧aFd x:=by
 obtain⟨a0,b0,rfl,p0,q0⟩:=bu h;obtain⟨x0,rfl,y0⟩:=bP rfl jH p0;obtain⟨a1,b1,rfl,p1,q1⟩:=bu q0;obtain⟨x1,rfl,y1⟩:=bP rfl (lR .i64) p1;obtain⟨a2,b2,rfl,p2,q2⟩:=bu q1;obtain⟨x2,rfl,y2⟩:=bP rfl (lR .i64) p2;obtain⟨a3,b3,rfl,p3,q3⟩:=bu q2;obtain⟨x3,rfl,y3⟩:=bP rfl (lR .i64) p3;obtain⟨a4,b4,rfl,p4,q4⟩:=bu q3;obtain⟨x4,rfl,y4⟩:=bP rfl (tP jH) p4;obtain rfl:=nC q4;exact⟨⟨x0,x1,x2,x3,x4⟩,rfl,⟨y0,y1,y2,y3,y4⟩⟩
theorem Yp:Rd Yn Pol.Fd.av aFd:=jR Yo
abbrev Yq:List TT:=[.str,(.slice Yn)]
abbrev Yr:TT:=.struct Yq
structure aSc (x:Pol.Sc):Prop where
 name:okS x.name
 fields:oH aFd x.fields
theorem Yt(l:List AV)(h:TT.tQ Yq l):∃ x:Pol.Sc,l=Pol.Sc.cs x∧aSc x:=by
 obtain⟨a0,b0,rfl,p0,q0⟩:=bu h;obtain⟨x0,rfl,y0⟩:=bP rfl jH p0;obtain⟨a1,b1,rfl,p1,q1⟩:=bu q0;obtain⟨x1,rfl,y1⟩:=bP rfl (tP Yp) p1;obtain rfl:=nC q1;exact⟨⟨x0,x1⟩,rfl,⟨y0,y1⟩⟩
theorem Yu:Rd Yr Pol.Sc.av aSc:=jR Yt
structure Pol.Sw where
 node:Int
 number:Int
abbrev Pol.Sw.cs(x:Pol.Sw):List AV:=[.int .u8 x.node,.int .i32 x.number]
abbrev Pol.Sw.av(x:Pol.Sw):AV:=.agg x.cs
structure aSw (x:Pol.Sw):Prop where
 node:okI .u8 x.node
 number:okI .i32 x.number
section
variable{H:Type}{enc:TypeId×Value->H}{W:World}{base b:Nat}{sp:Nat->Bool}{hd:Bool}{v:Value}{d:DataW H}{ps:List MemPlace}
end
end Go.Ab.Pn
