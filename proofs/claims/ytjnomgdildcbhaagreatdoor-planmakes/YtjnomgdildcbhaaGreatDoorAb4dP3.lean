/-
  Schemas, values of nodes, and the normal form of a condition: it means what the condition means.
-/
import Derived.Test.YtjnomgdildcbhaaGreatDoorAbSem
import Derived.Test.YtjnomgdildcbhaaGreatDoorAb4dC
set_option linter.all false
set_option maxRecDepth 100000
set_option maxHeartbeats 1000000
namespace Go.Ab.Pol
structure Fd where
 name:Bs
 kind:Int
 mn:Int
 mx:Int
 words:Sl Bs
structure Sc where
 name:Bs
 fields:Sl Fd
abbrev Fd.cs(x:Fd):List AV:=[.str x.name,iV x.kind,iV x.mn,iV x.mx,x.words.avS .str]
abbrev Fd.av(x:Fd):AV:=.agg x.cs
abbrev Sc.cs(x:Sc):List AV:=[.str x.name,x.fields.avS Fd.av]
abbrev Sc.av(x:Sc):AV:=.agg x.cs
def nH:List Bs->List Bs->Int
 |_,[]=>0
 |met,w::l=>if cw w=false then 1 else if w∈met then 8 else nH (met++[w]) l
def nG(l:List Bs):Int:=if l.length<1∨64<l.length then 6 else nH [] l
def bN(f:Fd):Int:=
 if f.kind=0 then (if f.words.l≠[] then 3 else if f.mn < -2147483648∨2147483647<f.mx∨f.mx<f.mn then 2 else 0)
 else if f.kind=1 then (if f.mn≠0∨f.mx≠0 then 3 else nG f.words.l) else 3
def gj:List Bs->List Fd->Int
 |_,[]=>0
 |met,f::l=>if aJ f.name=false then 1 else if f.name∈met then 8 else if bN f≠0 then bN f else gj (met++[f.name]) l
def jV(s:Sc):Int:=if aJ s.name=false then 1 else if s.fields.l.length<1∨16<s.fields.l.length then 6 else gj [] s.fields.l
def xK(us:List Us)(al:Bs):Option Nat:=us.findIdx? λu=>decide (u.al=al)
def scN(l:List Sc)(nm:Bs):Option Sc:=l.find? λs=>decide (s.name=nm)
def fdI(s:Sc)(nm:Bs):Option Nat:=s.fields.l.findIdx? λf=>decide (f.name=nm)
def findF(us:List Us)(l:List Sc)(r:Rf):Option (Nat×Nat×Fd):=match xK us r.al with
 |none=>none
 |some u=>match us[u]? with
  |none=>none
  |some x=>match scN l x.sc with
   |none=>none
   |some s=>match fdI s r.attr with
    |none=>none
    |some k=>match s.fields.l[k]? with
     |none=>none
     |some f=>some (u,k,f)
def zFd:Fd:=⟨[],0,0,0,⟨true,[]⟩⟩
inductive Vl where
 |num (n:Int)
 |word (w:Bs)
 deriving DecidableEq
def gV(j6 a b:Int):Bool:=
 if j6=0 then decide (a=b) else if j6=1 then decide (a≠b) else if j6=2 then decide (a<b) else if j6=3 then decide (a<=b) else if j6=4 then decide (a > b) else decide (a≥b)
def complement(j6:Int):Int:=if j6=0 then 1 else if j6=1 then 0 else if j6=2 then 5 else if j6=3 then 4 else if j6=4 then 3 else 2
def cN(j6:Int):Int:=if j6=0 then 0 else if j6=1 then 1 else if j6=2 then 4 else if j6=3 then 5 else if j6=4 then 2 else 3
def How(h:Int):Prop:=h=0∨h=1∨h=2∨h=3∨h=4∨h=5
theorem uR{h:Int}(hh:How h):How (cN h):=by
 rcases hh with rfl|rfl|rfl|rfl|rfl|rfl<;>simp[How,cN]
theorem Ef{h:Int}(hh:How h):How (complement h):=by
 rcases hh with rfl|rfl|rfl|rfl|rfl|rfl<;>simp[How,complement]
section
variable(fd:Nd->Fd)
def dV(j6:Int)(a b:Nd):Cd:=.atom 6 j6 [a,b]
def bq(n:Int):Nd:=⟨10,n,[],[],⟨true,[]⟩,0⟩
def within(x:Nd)(lo hi:Int):Cd:=
 if min hi (fd x).mx<max lo (fd x).mn then cB false
 else if max lo (fd x).mn=(fd x).mn∧min hi (fd x).mx=(fd x).mx then cB true
 else if max lo (fd x).mn=min hi (fd x).mx then dV 0 x (bq (max lo (fd x).mn))
 else .atom 7 0 [x,bq (max lo (fd x).mn),bq (min hi (fd x).mx)]
def bounded(j6:Int)(x:Nd)(c:Int):Cd:=
 if j6=0 then within fd x c c else if j6=2 then within fd x (fd x).mn (c-1) else if j6=3 then within fd x (fd x).mn c
 else if j6=4 then within fd x (c+1) (fd x).mx else if j6=5 then within fd x c (fd x).mx
 else if c<(fd x).mn∨(fd x).mx<c then cB true else if (fd x).mn=(fd x).mx then cB false else dV 1 x (bq c)
def cP(j6:Int)(a b:Nd):Cd:=
 if j6=0 then (if ((fd a).mn-(fd b).mx=0∧(fd a).mx-(fd b).mn=0)∨(0<(fd a).mn-(fd b).mx∨(fd a).mx-(fd b).mn<0) then cB (decide ((fd a).mn-(fd b).mx=0∧(fd a).mx-(fd b).mn=0)) else dV j6 a b)
 else if j6=1 then (if (0<(fd a).mn-(fd b).mx∨(fd a).mx-(fd b).mn<0)∨((fd a).mn-(fd b).mx=0∧(fd a).mx-(fd b).mn=0) then cB (decide (0<(fd a).mn-(fd b).mx∨(fd a).mx-(fd b).mn<0)) else dV j6 a b)
 else if j6=2 then (if (fd a).mx-(fd b).mn<0∨0<=(fd a).mn-(fd b).mx then cB (decide ((fd a).mx-(fd b).mn<0)) else dV j6 a b)
 else if j6=3 then (if (fd a).mx-(fd b).mn<=0∨0<(fd a).mn-(fd b).mx then cB (decide ((fd a).mx-(fd b).mn<=0)) else dV j6 a b)
 else dV j6 a b
def numbers(j6:Int)(a b:Nd):Cd:=if j6=4∨j6=5 then cP fd (cN j6) b a else cP fd j6 a b
def bP(j6:Int)(a b:Nd):Cd:=
 if a.k=10 then cB (gV j6 a.num b.num)
 else if a.k=11 then cB (decide (a.nm=b.nm)==decide (j6=0))
 else if b.k=10 then bounded fd j6 a b.num
 else if b.k=9∧a.nm=b.nm∧a.attr=b.attr then cB (gV j6 0 0)
 else if (fd a).kind=0 then numbers fd j6 a b
 else if (fd a).words.l.length=1 then cB (decide (j6=0))
 else dV j6 a b
def values(j6:Int)(a b:Nd):Cd:=if a.k≠9∧b.k=9 then bP fd (cN j6) b a else bP fd j6 a b
def sg(neg:Bool)(j6:Int):Int:=if neg then complement j6 else j6
def ofC(neg:Bool)(k:Int)(l:List Cd):Cd:=thr (if neg then (l.length:Int)-k+1 else k) l
def dY(ks:List Tr)(i:Nat):Nd:=match ks[i]? with
 |some t=>t.n
 |none=>bq 0
mutual
def norm(neg:Bool):Tr->Cd
 |.nd _ n ks=>
  if n.k=0 then cB (!neg) else if n.k=1 then cB neg
  else if n.k=2 then PA neg ks
  else if n.k=6 then values fd (sg neg n.num) (dY ks 0) (dY ks 1)
  else if n.k=7 then (if neg=false∧(dY ks 0).k=9∧(dY ks 1).k=10∧(dY ks 2).k=10 then within fd (dY ks 0) (dY ks 1).num (dY ks 2).num
   else ofC neg 2 [values fd (sg neg 5) (dY ks 0) (dY ks 1),values fd (sg neg 3) (dY ks 0) (dY ks 2)])
  else if n.k=8 then ofC neg 1 ((ks.drop 1).map λt=>values fd (sg neg 0) (dY ks 0) t.n)
  else if n.k=3 then ofC neg (ks.length:Int) (gq neg ks)
  else if n.k=4 then ofC neg 1 (gq neg ks)
  else ofC neg n.num (gq neg ks)
def gq(neg:Bool):List Tr->List Cd
 | []=>[]
 |t::ts=>norm neg t::gq neg ts
def PA(neg:Bool):List Tr->Cd
 | []=>cB true
 |t::_=>norm (!neg) t
end
end
section
variable(vl:Nd->Vl)
end
structure afc (fd:Nd->Fd)(vl:Nd->Vl):Prop where
 num:∀n,n.k=10->vl n=.num n.num
 word:∀n,n.k=11->vl n=.word n.nm
 same:∀a b,a.k=9->b.k=9->a.nm=b.nm->a.attr=b.attr->vl a=vl b
 afd:∀n,n.k=9->(fd n).kind=0->∃x,vl n=.num x∧(fd n).mn<=x∧x<=(fd n).mx
 afe:∀n,n.k=9->(fd n).kind≠0->∃w,vl n=.word w∧w∈(fd n).words.l
def Fits(fd:Nd->Fd)(j6:Int)(a b:Nd):Prop:=
  How j6∧(a.k=9∨a.k=10∨a.k=11)∧(b.k=9∨b.k=10∨b.k=11) ∧
  ((((a.k=9∧(fd a).kind=0)∨a.k=10)∧((b.k=9∧(fd b).kind=0)∨b.k=10)) ∨
   ((j6=0∨j6=1)∧((a.k=9∧(fd a).kind≠0)∨a.k=11)∧((b.k=9∧(fd b).kind≠0)∨b.k=11) ∧
     (a.k=9->b.k=9->(fd a).words.l=(fd b).words.l)∧(a.k=9->b.k=11->b.nm∈(fd a).words.l)∧(a.k=11->b.k=9->a.nm∈(fd b).words.l)))
section
variable{fd:Nd->Fd}{vl:Nd->Vl}
end
section
variable(fd:Nd->Fd)
end
section
variable{fd:Nd->Fd}{vl:Nd->Vl}
end
end Go.Ab.Pol
namespace Go.Ab.Pol
inductive VT where
 |num
 |wd (w:Bs)
 |fw (ws:List Bs)
def bS(us:List Us)(l:List Sc)(n:Nd):Option VT:=
 if n.k=10 then some .num else if n.k=11 then some (.wd n.nm) else match findF us l ⟨n.nm,n.attr⟩ with
  |none=>none
  |some (_,_,f)=>some (if f.kind=0 then .num else .fw f.words.l)
def aV:VT->VT->Int
 |.num,.num=>0
 |.num,_=>10
 |_,.num=>10
 |.fw a,.fw b=>if a=b then 0 else 10
 |.fw a,.wd w=>if w∈a then 0 else 9
 |.wd w,.fw b=>if w∈b then 0 else 9
 |.wd _,.wd _=>0
def isNum:VT->Bool
 |.num=>true
 |_=>false
def fW(v:VT):List VT->Int
 | []=>0
 |x::l=>if aV v x=0 then fW v l else aV v x
def nJ:List VT->Int
 | []=>0
 |v::l=>fW v l
def eA(n:Nd)(l:List VT):Int:=
 if n.k=6 then (if n.num≠0∧n.num≠1∧l.all isNum=false then 10 else nJ l)
 else if n.k=7 then (if l.all isNum=false then 10 else 0) else nJ l
section
variable(f:Nd->Option VT)
def eT:List Tr->Nat ⊕ List VT
 | []=>.inr []
 |t::ts=>match f t.n with
  |none=>.inl t.i
  |some v=>match eT ts with
   |.inl i=>.inl i
   |.inr vs=>.inr (v::vs)
def cR:Tr->Int×Int
 |.nd i n ks=>if n.k=6∨n.k=7∨n.k=8 then (match eT f ks with
   |.inl k=>((k:Int),9)
   |.inr vs=>if eA n vs=0 then (0,0) else ((i:Int),eA n vs)) else (0,0)
mutual
def gN:Tr->Int×Int
 |.nd i n ks=>if (cR f (.nd i n ks)).2=0 then jQ ks else cR f (.nd i n ks)
def jQ:List Tr->Int×Int
 | []=>(0,0)
 |t::ts=>if (gN t).2=0 then jQ ts else gN t
end
end
mutual
def Tr.subs:Tr->List Tr
 |.nd i n ks=>.nd i n ks::Tr.bL ks
def Tr.bL:List Tr->List Tr
 | []=>[]
 |t::ts=>t.subs++Tr.bL ts
end
def fu:List (Int×Int)->Int×Int
 | []=>(0,0)
 |e::l=>if e.2=0 then fu l else e
theorem Dx(l m:List (Int×Int)):fu (l++m)=if (fu l).2=0 then fu m else fu l:=by
 induction l with
 |nil=>simp[fu]
 |cons e l ih=>
  simp only[afo,fu];by_cases h:e.2=0
  ·simp[h,ih]
  ·simp[h]
mutual
theorem iG(f:Nd->Option VT):∀t:Tr,gN f t=fu (t.subs.map (cR f))
 |.nd i n ks=>by
  have:=pH f ks;simp only[gN,Tr.subs,afj,fu,this]
theorem pH(f:Nd->Option VT):∀ts:List Tr,jQ f ts=fu ((Tr.bL ts).map (cR f))
 | []=>rfl
 |t::ts=>by
  have h1:=iG f t;have h2:=pH f ts;simp only[jQ,Tr.bL,afE,Dx,h1,h2]
end
mutual
theorem gw:∀t:Tr,t.pre=t.subs.map Tr.i
 |.nd i n ks=>by simp[Tr.pre,Tr.subs,Tr.i,Ch ks]
theorem Ch:∀ts:List Tr,Tr.iz ts=(Tr.bL ts).map Tr.i
 | []=>rfl
 |t::ts=>by simp[Tr.iz,Tr.bL,gw t,Ch ts]
end
mutual
theorem jW{ns:List Nd}:∀{t:Tr},IsT ns t->∀s∈t.subs,IsT ns s
 |.nd i n ks,h,s,hs=>by
  simp only[Tr.subs,afp]at hs;rcases hs with rfl|hs
  ·exact h
  ·exact Eg h.2.2 s hs
theorem Eg{ns:List Nd}:∀{ts:List Tr},nR ns ts->∀s∈Tr.bL ts,IsT ns s
 | [],h,s,hs=>by simp[Tr.bL]at hs
 |t::ts,h,s,hs=>by
  simp only[Tr.bL,afR]at hs;rcases hs with hs|hs
  ·exact jW h.1 s hs
  ·exact Eg h.2 s hs
end
def jC:List Sc->Int
 | []=>0
 |s::l=>if jV s=0 then jC l else jV s
def bz(p:Po)(l:List Sc):Int:=
 if chk p≠0 then chk p else if jC l≠0 then jC l else if ¬ (l.map Sc.name).Nodup then 8
 else if p.uses.l.all (λu=>(scN l u.sc).isSome)=false then 9 else 0
def iy(p:Po)(l:List Sc)(t:Tr):Int×Int:=
 if bz p l≠0 then (0,bz p l) else if p.az.l.all (λr=>(findF p.uses.l l r).isSome)=false then (0,9)
 else gN (bS p.uses.l l) t
theorem ru{v:VT}:∀{l:List VT},fW v l=0->∀x∈l,aV v x=0
 | [],_,x,hx=>by simp at hx
 |y::l,h,x,hx=>by
  simp only[fW]at h;split at h
  ·rename_i h0;rcases afp.1 hx with rfl|hx
   ·exact h0
   ·exact ru h x hx
  ·rename_i h0;exact absurd h h0
theorem nT{f:Nd->Option VT}:∀{ts:List Tr} {vs:List VT},eT f ts=.inr vs->ts.map (λt=>f t.n)=vs.map some
 | [],vs,h=>by
  simp only[eT,Sum.inr.injEq]at h;subst h;rfl
 |t::ts,vs,h=>by
  simp only[eT]at h;split at h
  ·cases h
  ·rename_i v hv;split at h
   ·cases h
   ·rename_i ws hw;simp only[Sum.inr.injEq]at h;subst h;simp[hv,nT hw]
def au(us:List Us)(l:List Sc)(n:Nd):Fd:=match findF us l ⟨n.nm,n.attr⟩ with
 |none=>zFd
 |some (_,_,f)=>f
theorem JK{us:List Us}{l:List Sc}{n:Nd}(hk:n.k=9∨n.k=10∨n.k=11)(h:bS us l n=some .num):(n.k=9∧(au us l n).kind=0)∨n.k=10:=by
 unfold bS at h;split at h
 ·rename_i e;exact .inr e
 split at h
 ·cases h
 ·split at h
  ·cases h
  ·rename_i f hf;split at h
   ·rename_i e;refine .inl ⟨by omega,?_⟩;unfold au;rw[hf];exact e
   ·cases h
theorem Lx{us:List Us}{l:List Sc}{n:Nd}{w:Bs}(h:bS us l n=some (.wd w)):n.k=11∧n.nm=w:=by
 unfold bS at h;split at h
 ·cases h
 split at h
 ·rename_i e;simp only[fS,VT.wd.injEq]at h;exact⟨e,h⟩
 ·split at h
  ·cases h
  ·split at h<;>cases h
theorem Lz{us:List Us}{l:List Sc}{n:Nd}{ws:List Bs}(hk:n.k=9∨n.k=10∨n.k=11)(h:bS us l n=some (.fw ws)):n.k=9∧(au us l n).kind≠0∧(au us l n).words.l=ws:=by
 unfold bS at h;split at h
 ·cases h
 split at h
 ·cases h
 ·split at h
  ·cases h
  ·rename_i f hf;split at h
   ·cases h
   ·rename_i e;simp only[fS,VT.fw.injEq]at h;unfold au;rw[hf];exact⟨by omega,e,h⟩
theorem fH{n:Nd}{c:Bool}(h:jo n c=0):0<=n.k∧n.k<12∧(decide (n.k<=8)=c)∧aI n.k n.kids.l.length=true∧aH n=true∧eP n<=n.num∧n.num<=cH n:=by
 unfold jo at h;split at h
 ·simp at h
 ·rename_i h1;split at h
  ·simp at h
  ·rename_i h2;have h1:vY n c=true:=by simpa using h1
   simp only[vY,afC,decide_eq_true_eq,beq_iff_eq]at h1;exact⟨h1.1.1.1.1,h1.1.1.1.2,h1.1.1.2,h1.1.2,h1.2,by omega,by omega⟩
theorem LC{c:Bool}:∀{ts:List Tr},WFs ts c->∀t∈ts,WF t c
 | [],_,t,ht=>by simp at ht
 |s::ts,h,t,ht=>by
  rcases afp.1 ht with rfl|ht
  ·exact h.1
  ·exact LC h.2 t ht
theorem Pz{t:Tr}(h:WF t false):t.n.k=9∨t.n.k=10∨t.n.k=11:=by
 cases t with
 |nd i n ks=>
  obtain⟨h1,h2,h3,_⟩:=fH h.1;simp only[Tr.n];simp only[decide_eq_false_iff_not]at h3;omega
end Go.Ab.Pol
namespace Go.Ab.Pn
open Go.Ab.Pol
def hkF(f:FuncId):Bool:=f==284 ||f==48 ||f==49 ||f==187 ||f==87
theorem KX(f:FuncId)(a:List AV)(h:Heap)(hf:hkF f=false:=by decide):K.X f a h=none:=by
 show Jv f a h=none;unfold Jv;split<;>first|rfl|(exact absurd hf (by decide))
theorem KXc(f:FuncId)(v:AV)(h:Heap)(hf:f≠284)(hv:v≠.lst []):K.X f [v] h=none:=by
 show Jv f [v] h=none;unfold Jv;split
 ·exact absurd rfl hf
 all_goals first|rfl|(rename_i q;exact absurd (by injection q) hv)|exact absurd rfl hv
theorem KL(f:FuncId):K.jS f=aa f:=rfl
abbrev okS(s:Bs):Prop:=s.length<=140737488355328
theorem f214(n:Int)(h:Heap):(mu K).fn 214 [.int .u8 n] h=some (.val (.bool (dG n)) h):=by
 rw[aC (KX _ _ _) aaD rfl (by simp[V8])];unfold dG;by_cases a:97<=n<;>by_cases b:n<=122<;>by_cases c:65<=n<;>by_cases d:n<=90<;>simp[V8,a,b,c,d]
theorem f215(n:Int)(h:Heap):(mu K).fn 215 [.int .u8 n] h=some (.val (.bool (fc n)) h):=by
 rw[aC (KX _ _ _) aaE rfl (by simp[V9])];unfold fc;by_cases a:48<=n<;>by_cases b:n<=57<;>simp[V9,a,b]
theorem f216(s:Bs)(h:Heap):(mu K).fn 216 [.str s] h=some (.val (.bool (kw s)) h):=by
 rw[aC (KX _ _ _) aaF rfl (by simp[nO])];by_cases e0:s=[112,111,108,105,99,121]
 ·subst e0;simp[nO,kw,kws]
 by_cases e1:s=[117,115,101,115]
 ·subst e1;simp[nO,kw,kws]
 by_cases e2:s=[114,101,118,101,97,108]
 ·subst e2;simp[nO,kw,kws]
 by_cases e3:s=[112,114,111,118,101]
 ·subst e3;simp[nO,kw,kws]
 by_cases e4:s=[115,99,111,112,101]
 ·subst e4;simp[nO,kw,kws]
 by_cases e5:s=[108,105,109,105,116]
 ·subst e5;simp[nO,kw,kws]
 by_cases e6:s=[101,115,99,114,111,119]
 ·subst e6;simp[nO,kw,kws]
 by_cases e7:s=[101,110,100]
 ·subst e7;simp[nO,kw,kws]
 by_cases e8:s=[97,108,108]
 ·subst e8;simp[nO,kw,kws]
 by_cases e9:s=[97,110,121]
 ·subst e9;simp[nO,kw,kws]
 by_cases e10:s=[97,116,108,101,97,115,116]
 ·subst e10;simp[nO,kw,kws]
 by_cases e11:s=[110,111,116]
 ·subst e11;simp[nO,kw,kws]
 by_cases e12:s=[116,114,117,101]
 ·subst e12;simp[nO,kw,kws]
 by_cases e13:s=[102,97,108,115,101]
 ·subst e13;simp[nO,kw,kws]
 by_cases e14:s=[98,101,116,119,101,101,110]
 ·subst e14;simp[nO,kw,kws]
 by_cases e15:s=[97,110,100]
 ·subst e15;simp[nO,kw,kws]
 by_cases e16:s=[105,110]
 ·subst e16;simp[nO,kw,kws]
 simp[nO,kw,kws,e0,e1,e2,e3,e4,e5,e6,e7,e8,e9,e10,e11,e12,e13,e14,e15,e16]
def vV(b:Bool)(c:UInt8):Bool ⊕ Unit:=if pz b (c.toNat:Int)=true then .inl false else .inr ()
theorem jy:∀(s:Bs) (b:Bool),(qD b s=true->∃b',iter vV b s=.inl b')∧(qD b s=false->iter vV b s=.inr ())
 | [],b=>⟨λ_=>⟨b,rfl⟩,λh=>by cases h⟩
 |c::s,b=>by
  have ih:=jy s false;simp only[iter,qD,vV];by_cases h:pz b (c.toNat:Int)=true
  ·simp only[h,if_true,afS];exact ih
  ·simp[h]
def vW(_:Unit)(c:UInt8):Unit ⊕ Unit:=if pE (c.toNat:Int)=true then .inl () else .inr ()
theorem jz:∀(s:Bs),(qW s=true->iter vW () s=.inl ())∧(qW s=false->iter vW () s=.inr ())
 | []=>⟨λ_=>rfl,λh=>by cases h⟩
 |c::s=>by
  have ih:=jz s;simp only[iter,qW,vW];by_cases h:pE (c.toNat:Int)=true
  ·simp only[h,if_true,afS];exact ih
  ·simp[h]
theorem aA{α:Type}{l j4 r:List α}{x:α}(hl:l=j4++x::r)(hb:l.length<=140737488355328):((j4.length:Int)<(l.length:Int))∧l[j4.length]?=some x∧IntKind.i64.wrap ((j4.length:Int)+1)=(j4.length:Int)+1:=by
 have hlen:l.length=j4.length+(r.length+1):=by rw[hl];simp
 exact⟨by omega,by rw[hl];simp,wrap64 (by omega) (by omega)⟩
theorem f170(s:Bs)(hs:okS s)(h:Heap):(mu K).fn 170 [.str s] h=some (.val (.bool (aJ s)) h):=by
 have O9:=λh=>f216 s h
 have key:=aB (K:=K) (n:=0) (live:=[0,5,6]) (a:=nB) vV
  (λj4 b=>⟨[(0,.str s),(5,.int .i64 (s.length:Int)),(6,.int .i64 (j4.length:Int))],[]::h⟩) (λj4 b=>b=j4.isEmpty)
  (λb o=>∃j3,o=some (.exit 0,⟨j3,[]::h⟩)∧get j3 0=.str s) (λ_ o=>∃j3,o=some (.ret,⟨j3,[]::h⟩)∧get j3 2=.bool false) s
  (λj4 x r b hl hb=>by
   obtain⟨h1,h2,w1⟩:=aA hl hs;have gS:=λh=>f214 (x.toNat:Int) h
   have pq:=λh=>f215 (x.toNat:Int) h
   rw[aj];generalize (mu K).code _=F;have hb':((j4.length:Int)=0)=(b=true):=by rw[hb];cases j4<;>simp;omega
   have hb2:(j4=[])=(b=true):=by rw[hb];cases j4<;>simp
   clear hb hl;unfold vV pz;by_cases c1:dG (x.toNat:Int)=true
   ·simp[nB,KL,aa,h1,h2,gS,w1,c1]
   ·cases b
    ·by_cases c3:(x.toNat:Int)=95
     ·have d3:((x.toNat:Int)=95)=True:=by simp;omega
      simp[nB,KL,aa,h1,h2,gS,w1,c1,hb2,d3]
     ·have d3:((x.toNat:Int)=95)=False:=by simp;omega
      by_cases c4:fc (x.toNat:Int)=true
      ·simp[nB,KL,aa,h1,h2,gS,pq,w1,c1,hb2,d3,c4]
      ·simp[nB,KL,aa,h1,h2,gS,pq,c1,hb2,d3,c4]
    ·simp[nB,KL,aa,h1,h2,gS,c1,hb2])
  (λb _=>by
   rw[aj];generalize (mu K).code _=F;simp[nB]) true rfl
 rw[aC (KX _ _ _) Z0 rfl (by simp[M7])];cases hn:qD true s
 ·rw[(jy s true).2 hn]at key;obtain⟨j3,k,g2⟩:=key;simp only[iO,afl]at k;simp[M7,k,g2,aJ,hn]
 ·obtain⟨b',e⟩:=(jy s true).1 hn;rw[e]at key;obtain⟨_,j3,k,g0⟩:=key;simp only[iO,afl]at k;unfold aJ;by_cases e1:s=[]
  ·have d1:(s=[])=True:=by simp[e1]
   simp[M7,k,g0,d1]
  ·by_cases e2:(s.length:Int)<=32
   ·have e3:s.length<=32:=by omega
    simp[M7,KL,aa,k,g0,e1,e2,e3,O9,hn]
   ·have e3:¬ s.length<=32:=by omega
    simp[M7,k,g0,e1,e2,e3,hn]
theorem f171(s:Bs)(hs:okS s)(h:Heap):(mu K).fn 171 [.str s] h=some (.val (.bool (cw s)) h):=by
 have key:=aB (K:=K) (n:=0) (live:=[0,5,6]) (a:=nC) vW
  (λj4 b=>⟨[(0,.str s),(5,.int .i64 (s.length:Int)),(6,.int .i64 (j4.length:Int))],[]::h⟩) (λj4 b=>True)
  (λb o=>∃j3,o=some (.exit 0,⟨j3,[]::h⟩)∧get j3 0=.str s) (λ_ o=>∃j3,o=some (.ret,⟨j3,[]::h⟩)∧get j3 2=.bool false) s
  (λj4 x r b hl hb=>by
   obtain⟨h1,h2,w1⟩:=aA hl hs;have gS:=λh=>f214 (x.toNat:Int) h
   have pq:=λh=>f215 (x.toNat:Int) h
   rw[aj];generalize (mu K).code _=F;clear hb hl;unfold vW pE;by_cases c1:dG (x.toNat:Int)=true
   ·simp[nC,KL,aa,h1,h2,gS,w1,c1]
   by_cases c2:fc (x.toNat:Int)=true
   ·simp[nC,KL,aa,h1,h2,gS,pq,w1,c1,c2]
   by_cases c3:(x.toNat:Int)=45
   ·have d3:((x.toNat:Int)=45)=True:=by simp;omega
    simp[nC,KL,aa,h1,h2,gS,pq,w1,c1,c2,d3]
   have d3:((x.toNat:Int)=45)=False:=by simp;omega
   by_cases c4:(x.toNat:Int)=95
   ·have d4:((x.toNat:Int)=95)=True:=by simp;omega
    simp[nC,KL,aa,h1,h2,gS,pq,w1,c1,c2,d3,d4]
   ·have d4:((x.toNat:Int)=95)=False:=by simp;omega
    simp[nC,KL,aa,h1,h2,gS,pq,c1,c2,d3,d4])
  (λb _=>by
   rw[aj];generalize (mu K).code _=F;simp[nC]) () trivial
 rw[aC (KX _ _ _) Z1 rfl (by simp[M8])];cases hn:qW s
 ·rw[(jz s).2 hn]at key;obtain⟨j3,k,g2⟩:=key;simp only[iO,afl]at k;simp[M8,k,g2,cw,hn]
 ·rw[(jz s).1 hn]at key;obtain⟨_,j3,k,g0⟩:=key;simp only[iO,afl]at k;unfold cw;by_cases e1:s=[]
  ·have d1:(s=[])=True:=by simp[e1]
   simp[M8,k,g0,d1]
  ·by_cases e2:(s.length:Int)<=32
   ·have e3:s.length<=32:=by omega
    simp[M8,k,g0,e1,e2,e3,hn]
   ·have e3:¬ s.length<=32:=by omega
    simp[M8,k,g0,e1,e2,e3,hn]
theorem f217(k:Int)(n:Nat)(h:Heap):(mu K).fn 217 [.int .i64 k,.int .i64 (n:Int)] h=some (.val (.bool (aI k n)) h):=by
 rw[aC (KX _ _ _) aaG rfl (by simp[uJ])];unfold aI;have n1:(1<=(n:Int))=(1<=n):=by simp;omega
 have n2:(2<=(n:Int))=(2<=n):=by simp;omega
 have n3:((n:Int)=1)=(n=1):=by simp;omega
 have n4:((n:Int)=2)=(n=2):=by simp;omega
 have n5:((n:Int)=3)=(n=3):=by simp;omega
 by_cases e0:k=0
 ·subst e0;simp[uJ]
 by_cases e1:k=1
 ·subst e1;simp[uJ]
 by_cases e9:k=9
 ·subst e9;simp[uJ]
 by_cases e10:k=10
 ·subst e10;simp[uJ]
 by_cases e11:k=11
 ·subst e11;simp[uJ]
 by_cases e2:k=2
 ·subst e2;simp[uJ,n3]
 by_cases e3:k=3
 ·subst e3;simp[uJ,n1]
 by_cases e4:k=4
 ·subst e4;simp[uJ,n1]
 by_cases e5:k=5
 ·subst e5;simp[uJ,n1]
 by_cases e6:k=6
 ·subst e6;simp[uJ,n4]
 by_cases e7:k=7
 ·subst e7;simp[uJ,n5]
 by_cases e8:k=8
 ·subst e8;simp[uJ,n2]
 simp[uJ,e0,e1,e2,e3,e4,e5,e6,e7,e8,e9,e10,e11]
abbrev okN(x:Nd):Prop:=okS x.nm∧okS x.attr
theorem f218(x:Nd)(hx:okN x)(h:Heap):(mu K).fn 218 [x.av] h=some (.val (.bool (aH x)) h):=by
 have a1:=λh=>f170 x.nm hx.1 h
 have a2:=λh=>f170 x.attr hx.2 h
 have a3:=λh=>f171 x.nm hx.1 h
 rw[aC (KX _ _ _) aaH rfl (by simp[Nb])];unfold aH;by_cases e9:x.k=9
 ·cases b1:aJ x.nm<;>simp[Nb,KL,aa,e9,a1,a2,b1]
 by_cases e11:x.k=11
 ·cases b1:cw x.nm<;>simp[Nb,KL,aa,e11,a3,b1]
 by_cases b1:x.nm=[]
 ·have d1:(x.nm=[])=True:=by simp[b1]
  simp[Nb,e9,e11,d1]
 ·simp[Nb,e9,e11,b1]
theorem f173(x:Nd)(c:Bool)(hx:okN x)(h:Heap):(mu K).fn 173 [x.av,.bool c] h=some (.val (.int .i64 (jo x c)) h):=by
 have wz:=λh=>f217 x.k x.kids.l.length h
 have xL:=λh=>f218 x hx h
 rw[aC (KX _ _ _) Z3 rfl (by simp[oZ])];unfold jo vY;by_cases c1:x.k<0
 ·have c1':¬ 0<=x.k:=by omega
  simp[oZ,c1,c1']
 have c1':0<=x.k:=by omega
 by_cases c2:12<=x.k
 ·have c2':¬ x.k<12:=by omega
  simp[oZ,c1,c1',c2,c2']
 have c2':x.k<12:=by omega
 cases c3:(decide (x.k<=8)==c)
 ·simp[oZ,c1,c1',c2,c2',c3]
 cases c4:aI x.k x.kids.l.length
 ·simp[oZ,KL,aa,c1,c1',c2,c2',c3,c4,wz]
 cases c5:aH x
 ·simp[oZ,KL,aa,c1,c1',c2,c2',c3,c4,c5,wz,xL]
 unfold eP cH;by_cases e5:x.k=5
 ·have d5:(x.k=5)=True:=by simp[e5]
  have d6:(x.k=6)=False:=by simp[e5]
  have d10:(x.k=10)=False:=by simp[e5]
  by_cases l1:x.num<1
  ·simp[oZ,KL,aa,c1,c1',c2,c2',c3,c4,c5,wz,xL,d5,l1]
  by_cases l2:(x.kids.l.length:Int)<x.num
  ·simp[oZ,KL,aa,c1,c1',c2,c2',c3,c4,c5,wz,xL,d5,l1,l2]
  ·simp[oZ,KL,aa,c1,c1',c2,c2',c3,c4,c5,wz,xL,d5,l1,l2]
 have d5:(x.k=5)=False:=by simp[e5]
 by_cases e6:x.k=6
 ·have d6:(x.k=6)=True:=by simp[e6]
  have d10:(x.k=10)=False:=by simp[e6]
  by_cases l1:x.num<0
  ·simp[oZ,KL,aa,c1,c1',c2,c2',c3,c4,c5,wz,xL,d5,d6,d10,l1]
  by_cases l2:5<x.num
  ·simp[oZ,KL,aa,c1,c1',c2,c2',c3,c4,c5,wz,xL,d5,d6,d10,l1,l2]
  ·simp[oZ,KL,aa,c1,c1',c2,c2',c3,c4,c5,wz,xL,d5,d6,d10,l1,l2]
 have d6:(x.k=6)=False:=by simp[e6]
 by_cases e10:x.k=10
 ·have d10:(x.k=10)=True:=by simp[e10]
  by_cases l1:x.num < -2147483648
  ·simp[oZ,KL,aa,c1,c1',c2,c2',c3,c4,c5,wz,xL,d5,d6,d10,l1]
  by_cases l2:2147483647<x.num
  ·simp[oZ,KL,aa,c1,c1',c2,c2',c3,c4,c5,wz,xL,d5,d6,d10,l1,l2]
  ·simp[oZ,KL,aa,c1,c1',c2,c2',c3,c4,c5,wz,xL,d5,d6,d10,l1,l2]
 have d10:(x.k=10)=False:=by simp[e10]
 by_cases l1:x.num<0
 ·simp[oZ,KL,aa,c1,c1',c2,c2',c3,c4,c5,wz,xL,d5,d6,d10,l1]
 by_cases l2:0<x.num
 ·simp[oZ,KL,aa,c1,c1',c2,c2',c3,c4,c5,wz,xL,d5,d6,d10,l1,l2]
 ·simp[oZ,KL,aa,c1,c1',c2,c2',c3,c4,c5,wz,xL,d5,d6,d10,l1,l2]
theorem bu(T:List (List Blk))(F:List Blk)(o:Heap)(i:Nat):hget (T++F::o) (o.length,i)=F[i]?:=by
 induction T with
 |nil=>simp[hget]
 |cons f T ih=>
  simp only[afo,hget,afr,Io];rw[if_neg (by omega)];exact ih
theorem cx(T:List (List Blk))(F:List Blk)(o:Heap)(i:Nat)(B:Blk):aQ (T++F::o) (o.length,i) B=T++F.set i B::o:=by
 induction T with
 |nil=>simp[aQ]
 |cons f T ih=>
  simp only[afo,aQ,afr,Io];rw[if_neg (by omega),ih]
def wA(l9:List Int):List (AV×AV):=l9.map λi=>(.int .i64 i,.bool true)
theorem Eh(i:Int):∀l9:List Int,gI (.one .int) (.int .i64 i) (wA l9)=some (if i∈l9 then some (.bool true) else none)
 | []=>rfl
 |j::l9=>by
  have ih:=Eh i l9;unfold wA at ih⊢;simp only[afj,gI,eqK,eqF,if_true];by_cases e:i=j
  ·subst e;simp
  ·simp[e,ih]
theorem Hh(i:Int):∀l9:List Int,i∉l9->uS (.one .int) (.int .i64 i) (.bool true) (wA l9)=some (wA (l9++[i]))
 | [],_=>rfl
 |j::l9,h=>by
  simp only[afp,not_or]at h;have ih:=Hh i l9 h.2;unfold wA at ih⊢;simp only[afj,afo,uS,eqK,eqF,if_true];simp[h.1,ih]
abbrev TF(p:Po)(l9:List Int)(o:Heap):Heap:=
 [.box 26 false p.av,.map (wA l9),.box 256 false (.mp (o.length,1)),.box 257 false (.fn (.func 172) [] [.ptr (o.length,0) 0,.ptr (o.length,2) 0,.ptr (o.length,3) 0])]::o
abbrev okP(p:Po):Prop:=p.nodes.l.length<=1000∧(∀n∈p.nodes.l,okN n∧n.kids.l.length<=1000)
theorem Ei(v:Int->List Int->Int×List Int):∀(ks:List Int) (l9:List Int),
  ((mG v ks l9).1=0->iter (λl9 k=>if (v k l9).1=0 then (.inl (v k l9).2:List Int ⊕ (Int×List Int)) else .inr (v k l9)) l9 ks=.inl (mG v ks l9).2) ∧
  ((mG v ks l9).1≠0->iter (λl9 k=>if (v k l9).1=0 then (.inl (v k l9).2:List Int ⊕ (Int×List Int)) else .inr (v k l9)) l9 ks=.inr (mG v ks l9))
 | [],l9=>⟨λ_=>rfl,λh=>absurd rfl h⟩
 |k::ks,l9=>by
  have ih:=Ei v ks (v k l9).2;simp only[iter,mG];by_cases h:(v k l9).1=0
  ·simp only[h,if_true];exact ih
  ·rw[if_neg h,if_neg h];exact⟨λq=>absurd q h,λ_=>rfl⟩
theorem f172(p:Po)(hp:okP p)(o:Heap):∀(f:Nat) (i:Int) (c:Bool) (l9:List Int) (T:List (List Blk)),f<=32 ->
  (mu K).fn 172 [.int .i64 i,.int .i64 (33-(f:Int)),.bool c,.ptr (o.length,0) 0,.ptr (o.length,2) 0,.ptr (o.length,3) 0] (T++TF p l9 o) =
   some (.val (.int .i64 (vis p.nodes.l f i c l9).1) (T++TF p (vis p.nodes.l f i c l9).2 o))
 |f,i,c,l9,T,hf=>by
  have ne:(o.length=T.length+(o.length+1))=False:=by simp;omega
  have ls:=Eh i l9;rw[aC (KX _ _ _) Z2 rfl (by simp[Fz])];by_cases b1:i<0
  ·have e:vis p.nodes.l f i c l9=(3,l9):=by
    have:gT p.nodes.l i l9=true:=by simp[gT,b1]
    cases f<;>simp[vis,this]
   rw[e];simp[Fz,b1]
  by_cases b2:(p.nodes.l.length:Int)<=i
  ·have e:vis p.nodes.l f i c l9=(3,l9):=by
    have:gT p.nodes.l i l9=true:=by simp[gT,b2]
    cases f<;>simp[vis,this]
   rw[e];simp[Fz,b1,b2,ne,bu]
  by_cases b3:i∈l9
  ·have e:vis p.nodes.l f i c l9=(3,l9):=by
    have:gT p.nodes.l i l9=true:=by simp[gT,b3]
    cases f<;>simp[vis,this]
   rw[e];simp[Fz,b1,b2,b3,ne,bu,eqK,eqF,ls]
  have hb:gT p.nodes.l i l9=false:=nP.2 ⟨by omega,by omega,b3⟩;cases f with
  |zero=>
   have e:vis p.nodes.l 0 i c l9=(7,l9):=by simp[vis,hb]
   rw[e];simp[Fz,b1,b2,b3,ne,bu,eqK,eqF,ls]
  |succ f=>
   obtain⟨n,hnd⟩:∃n,p.nodes.l[i.toNat]?=some n:=⟨_,afD (by omega)⟩
   have hmem:n∈p.nodes.l:=afB hnd;obtain⟨hok,hkl⟩:=hp.2 n hmem;have i0:0<=i:=by omega
   have WI:=λh=>f173 n c hok h
   have us:=Hh i l9 b3;have hia:=λ(k:IntKind)=>cK (av:=Nd.av) (sz:=6) (s:=p.nodes) (k:=k) (j:=i) (x:=n) i0 hnd rfl
   have hd:¬ (32:Int)<33-((f:Int)+1):=by omega
   have e0:vis p.nodes.l (f+1) i c l9=if jo n c=0 then mG (λk s=>vis p.nodes.l f k (decide (n.k<=5)) s) n.kids.l (l9++[i]) else (jo n c,l9++[i]):=by
    rw[vis,hb];simp[hnd]
   rw[e0];by_cases hfe:jo n c=0
   case neg=>
    rw[if_neg hfe];simp[Fz,KL,aa,b1,b2,b3,ne,bu,cx,eqK,eqF,ls,us,hd,hia,WI,hfe]
   rw[if_pos hfe];have key:=aB (K:=K) (n:=1) (live:=[1,5,10,47,48,49]) (a:=uD) (λs k=>if (vis p.nodes.l f k (decide (n.k<=5)) s).1=0 then (.inl (vis p.nodes.l f k (decide (n.k<=5)) s).2:List Int ⊕ (Int×List Int)) else .inr (vis p.nodes.l f k (decide (n.k<=5)) s))
    (λj4 s=>⟨[(1,.int .i64 (33-((f:Int)+1))),(5,.ptr (o.length,3) 0),(10,.ptr (T.length+(o.length+1),0) 0),(47,n.kids.avS iV),(48,.int .i64 (n.kids.l.length:Int)),(49,.int .i64 (j4.length:Int))],[.box 90 false n.av]::(T++TF p s o)⟩)
    (λ_ _=>True)
    (λs r=>∃j3,r=some (.exit 1,⟨j3,[.box 90 false n.av]::(T++TF p s o)⟩))
    (λr q=>∃j3,q=some (.ret,⟨j3,[.box 90 false n.av]::(T++TF p r.2 o)⟩)∧get j3 9=.int .i64 r.1) n.kids.l
    (λj4 x r s hl _=>by
     obtain⟨h1,h2,w1⟩:=aA hl (by omega);have ih:=f172 p hp o f x (decide (n.k<=5)) s ([.box 90 false n.av]::T) (by omega);have hix:=iaP iV 1 n.kids j4.length x (by simpa using h2);have wd:IntKind.i64.wrap (33-((f:Int)+1)+1)=33-(f:Int):=by rw[wrap64 (by omega) (by omega)];omega
     simp only[afo]at ih;rw[aj];generalize (mu K).code _=F;clear hl;generalize vis p.nodes.l f x (decide (n.k<=5)) s=R at *
     obtain⟨e,s'⟩:=R;by_cases he:e=0
     ·subst he;simp[uD,KL,aa,h1,hix,w1,wd,ih,ne,bu]
     ·simp[uD,KL,aa,h1,hix,wd,ih,ne,bu,he])
    (λs _=>by
     rw[aj];generalize (mu K).code _=F;simp[uD]) (l9++[i]) trivial
   obtain⟨v1,v2⟩:=Ei (λk s=>vis p.nodes.l f k (decide (n.k<=5)) s) n.kids.l (l9++[i]);generalize mG (λk s=>vis p.nodes.l f k (decide (n.k<=5)) s) n.kids.l (l9++[i])=R at *
   obtain⟨e,s'⟩:=R;simp only[iO,afl]at key;by_cases he:e=0
   ·subst he;rw[v1 rfl]at key;obtain⟨_,j3,k⟩:=key;simp[Fz,KL,aa,b1,b2,b3,ne,bu,cx,eqK,eqF,ls,us,hd,hia,WI,hfe,k]
   ·rw[v2 he]at key;obtain⟨j3,k,g9⟩:=key;simp[Fz,KL,aa,b1,b2,b3,ne,bu,cx,eqK,eqF,ls,us,hd,hia,WI,hfe,k,g9]
theorem f111(p:Po)(hp:okP p)(h:Heap):(mu K).fn 111 [p.av] h=some (.val (.int .i64 (mM p)) h):=by
 have k:=f172 p hp h 32 p.root true [] [] (by omega);have e1:(33-((32:Nat):Int))=1:=rfl;rw[e1]at k;simp only[afq]at k;unfold mM;generalize vis p.nodes.l 32 p.root true []=R at *
 obtain⟨e,s⟩:=R;have hln:(wA s).length=s.length:=by simp[wA]
 have e0:wA []=[]:=rfl;simp only[TF,e0]at k;rw[aC (KX _ _ _) Zj rfl (by simp[OO])];by_cases he:e=0
 ·subst he;by_cases hl:s.length=p.nodes.l.length
  ·have hl2:((s.length:Int)=(p.nodes.l.length:Int))=True:=by simp;omega
   simp[OO,KL,aa,k,hl,hln]
  ·have hl2:((s.length:Int)=(p.nodes.l.length:Int))=False:=by simp;omega
   simp[OO,KL,aa,k,hl2,hl,hln]
 ·simp[OO,KL,aa,k,he]
