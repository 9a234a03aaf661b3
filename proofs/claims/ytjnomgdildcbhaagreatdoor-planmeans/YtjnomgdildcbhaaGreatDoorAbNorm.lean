/-
  Slices that nobody writes, as lists with a mark for nil; loops over them.
-/
import Derived.Test.YtjnomgdildcbhaaGreatDoorAbArg
set_option linter.unusedVariables false
set_option linter.unusedSimpArgs false
namespace Go.Ab
def lv(nl:Bool):List AV->AV
 | []=>if nl then .aj else .lst []
 |e :: r=>.lst (e :: r)
structure Sl (α:Type) where
 nl:Bool
 l:List α
def Sl.avS{α:Type}(av:α->AV)(s:Sl α):AV:=lv s.nl (s.l.map av)
@[simp] theorem mK (l:List AV):lv false l=.lst l:=by cases l<;>rfl
@[simp] theorem Rz (nl:Bool) (e:AV) (r:List AV):lv nl (e :: r)=.lst (e :: r):=rfl
theorem jK(nl:Bool){l:List AV}(h:l≠[]):lv nl l=.lst l:=by cases l with
 |nil=>exact absurd rfl h
 |cons e r=>rfl
@[simp] theorem PF (nl:Bool) (l:List AV):(lv nl l).cells=[lv nl l]:=by cases l<;>cases nl<;>rfl
@[simp] theorem PG (nl:Bool) (l:List AV):(lv nl l).isAgg=false:=by cases l<;>cases nl<;>rfl
@[simp] theorem PI (p:Loc->Bool) (nl:Bool) (l:List AV):(lv nl l).aJ p=true:=by cases l<;>cases nl<;>rfl
@[simp] theorem SX (p:Loc->Bool) (nl:Bool) (l:List AV) (h:Heap):(lv nl l).view p h=some (lv nl l,h):=by cases l<;>cases nl<;>rfl
@[simp] theorem Wk (nl:Bool) (l:List AV):uN (lv nl l)=some l.length:=by cases l<;>cases nl<;>rfl
@[simp] theorem PJ (nl:Bool) (l:List AV) (h:Heap):cP (lv nl l) h=some l:=by cases l<;>cases nl<;>rfl
@[simp] theorem Wl (r:Loc->Loc) (nl:Bool) (l:List AV):(lv nl l).ren r=lv nl l:=by cases l<;>cases nl<;>rfl
@[simp] theorem C5 {α:Type} (av:α->AV) (s:Sl α):(s.avS av).cells=[s.avS av]:=PF _ _
@[simp] theorem C4 {α:Type} (av:α->AV) (s:Sl α):(s.avS av).isAgg=false:=PG _ _
@[simp] theorem wq {α:Type} (p:Loc->Bool) (av:α->AV) (s:Sl α):(s.avS av).aJ p=true:=PI _ _ _
@[simp] theorem PK {α:Type} (p:Loc->Bool) (av:α->AV) (s:Sl α) (h:Heap):(s.avS av).view p h=some (s.avS av,h):=SX _ _ _ _
@[simp] theorem ab4 {α:Type} (av:α->AV) (s:Sl α):uN (s.avS av)=some s.l.length:=by rw [Sl.avS,Wk,ad6]
@[simp] theorem W9 {α:Type} (av:α->AV) (s:Sl α) (h:Heap):cP (s.avS av) h=some (s.l.map av):=PJ _ _ _
@[simp] theorem ab5 {α:Type} (r:Loc->Loc) (av:α->AV) (s:Sl α):(s.avS av).ren r=s.avS av:=Wl _ _ _
theorem nB{sz:Nat}{nl:Bool}{l:List AV}{k:IntKind}{j:Int}{v:AV}(h0:0<=j)(h1:l[j.toNat]?=some v)(h2:v.cells.length=sz):iaF sz (lv nl l) (.int k j)=some (.dH v 0):=by
 have:l≠[]:=λe=>by rw[e]at h1;simp at h1
 rw[jK nl this];simp[iaF,h0,h1,h2]
theorem dU{sz:Nat}{l:List AV}{k:IntKind}{j:Int}{v:AV}(h0:0<=j)(h1:l[j.toNat]?=some v)(h2:v.cells.length=sz):iaF sz (.lst l) (.int k j)=some (.dH v 0):=by
 simp[iaF,h0,h1,h2]
theorem aG{α:Type}{av:α->AV}{sz:Nat}{s:Sl α}{k:IntKind}{j:Int}{x:α}(h0:0<=j)(h1:s.l[j.toNat]?=some x)(h2:(av x).cells.length=sz):iaF sz (s.avS av) (.int k j)=some (.dH (av x) 0):=
 nB h0 (by simp[h1]) h2
def iter{α β ρ:Type}(f:β->α->β ⊕ ρ):β->List α->β ⊕ ρ
 |b,[]=>.inl b
 |b,x :: l=>match f b x with
  |.inl b'=>iter f b' l
  |.inr r=>.inr r
theorem aD{K:Cfg}{n:Nat}{live:List Nat}{a:CC}{α β ρ:Type}(f:β->α->β ⊕ ρ)(S:List α->β->St)(I:List α->β->Prop)
  (E:β->Option (Ex×St)->Prop) (R:ρ->Option (Ex×St)->Prop) (l:List α)
  (hs:∀ pre x s b,l=pre++x :: s->I pre b->(∀ b',f b x=.inl b'->I (pre++[x]) b'∧(mu K).code (.af n live a) (S pre b)=(mu K).code (.af n live a) (S (pre++[x]) b')) ∧
   (∀ r,f b x=.inr r->R r ((mu K).code (.af n live a) (S pre b))))
  (he:∀ b,I l b->E b ((mu K).code (.af n live a) (S l b))) (b0:β) (h0:I [] b0) :
  match iter f b0 l with
  |.inl b=>I l b∧E b ((mu K).code (.af n live a) (S [] b0))
  |.inr r=>R r ((mu K).code (.af n live a) (S [] b0)):=by
 have key:∀ (s pre:List α) (b:β),l=pre++s->I pre b->match iter f b s with
   |.inl b'=>I l b'∧E b' ((mu K).code (.af n live a) (S pre b))
   |.inr r=>R r ((mu K).code (.af n live a) (S pre b)):=by
  intro s
  induction s with
  |nil=>
   intro pre b hl hi;simp only[ael]at hl;subst hl;exact⟨hi,he b hi⟩
  |cons x s ih=>
   intro pre b hl hi;obtain⟨h1,h2⟩:=hs pre x s b hl hi;simp only[iter];cases hf:f b x with
   |inl b'=>
    obtain⟨k1,k2⟩:=h1 b' hf;have:=ih (pre++[x]) b' (by simp[hl]) k1;rw[k2];exact this
   |inr r=>exact h2 r hf
 exact key l [] b0 rfl h0
end Go.Ab
/-
  Policies: plain data;when a policy is well-formed;its tree.
-/
namespace Go.Ab.Pol
abbrev Bs:=List UInt8
abbrev iV(n:Int):AV:=.int .i64 n
structure Nd where
 k:Int
 num:Int
 nm:Bs
 attr:Bs
 kids:Sl Int
 pos:Int
structure Us where
 al:Bs
 sc:Bs
 deriving DecidableEq
structure Rf where
 al:Bs
 attr:Bs
 deriving DecidableEq
structure Po where
 name:Bs
 uses:Sl Us
 aA:Sl Rf
 nodes:Sl Nd
 root:Int
 scope:Bs
 limit:Int
 cD:Bs
abbrev Nd.cs(x:Nd):List AV:=[iV x.k,iV x.num,.str x.nm,.str x.attr,x.kids.avS iV,iV x.pos]
abbrev Nd.av(x:Nd):AV:=.agg x.cs
abbrev Us.cs(x:Us):List AV:=[.str x.al,.str x.sc]
abbrev Us.av(x:Us):AV:=.agg x.cs
abbrev Rf.cs(x:Rf):List AV:=[.str x.al,.str x.attr]
abbrev Rf.av(x:Rf):AV:=.agg x.cs
abbrev Po.cs(x:Po):List AV:=[.str x.name,x.uses.avS Us.av,x.aA.avS Rf.av,x.nodes.avS Nd.av,iV x.root,.str x.scope,iV x.limit,.str x.cD]
abbrev Po.av(x:Po):AV:=.agg x.cs
/- Names and words. -/
def fQ(n:Int):Bool:=decide (97<=n∧n<=122) ||decide (65<=n∧n<=90)
def jG(n:Int):Bool:=decide (48<=n∧n<=57)
def rV(first:Bool)(n:Int):Bool:=fQ n ||(!first&&(decide (n=95) ||jG n))
def zP(n:Int):Bool:=fQ n ||jG n ||decide (n=45) ||decide (n=95)
def rI:Bool->Bs->Bool
 |_,[]=>true
 |b,c :: s=>rV b (c.toNat:Int)&&rI false s
def tM:Bs->Bool
 | []=>true
 |c :: s=>zP (c.toNat:Int)&&tM s
def kws:List Bs:=[[112,111,108,105,99,121],[117,115,101,115],[114,101,118,101,97,108],[112,114,111,118,101],[115,99,111,112,101],[108,105,109,105,116],[101,115,99,114,111,119],[101,110,100],[97,108,108],
 [97,110,121],[97,116,108,101,97,115,116],[110,111,116],[116,114,117,101],[102,97,108,115,101],[98,101,116,119,101,101,110],[97,110,100],[105,110]]
def kw(s:Bs):Bool:=decide (s∈kws)
def aW(s:Bs):Bool:=rI true s&&decide (s≠[])&&decide (s.length<=32) && !kw s
def gG(s:Bs):Bool:=tM s&&decide (s≠[])&&decide (s.length<=32)
/- A node alone. -/
def cQ(k:Int)(n:Nat):Bool:=
 if k=0∨k=1∨k=9∨k=10∨k=11 then decide (n=0) else if k=2 then decide (n=1) else if k=3∨k=4∨k=5 then decide (1<=n)
 else if k=6 then decide (n=2) else if k=7 then decide (n=3) else if k=8 then decide (2<=n) else false
def dS(x:Nd):Bool:=if x.k=9 then aW x.nm&&aW x.attr else if x.k=11 then gG x.nm&&decide (x.attr=[]) else decide (x.nm=[])&&decide (x.attr=[])
def EZ(x:Nd):Int:=if x.k=5 then 1 else if x.k=10 then -2147483648 else 0
def xe(x:Nd):Int:=if x.k=5 then (x.kids.l.length:Int) else if x.k=6 then 5 else if x.k=10 then 2147483647 else 0
def fE(x:Nd)(c:Bool):Bool:=decide (0<=x.k)&&decide (x.k<12)&&(decide (x.k<=8)==c)&&cQ x.k x.kids.l.length&&dS x
def jX(x:Nd)(c:Bool):Int:=if fE x c=false then 3 else if x.num<EZ x∨xe x<x.num then 2 else 0
/- The visit of the nodes. -/
def lu(ns:List Nd)(i:Int)(seen:List Int):Bool:=decide (i<0) ||decide ((ns.length:Int)<=i) ||decide (i∈seen)
def lO(v:Int->List Int->Int×List Int):List Int->List Int->Int×List Int
 | [],seen=>(0,seen)
 |k :: ks,seen=>if (v k seen).1=0 then lO v ks (v k seen).2 else v k seen
def vis(ns:List Nd):Nat->Int->Bool->List Int->Int×List Int
 | 0,i,c,seen=>if lu ns i seen then (3,seen) else (7,seen)
 |f+1,i,c,seen=>if lu ns i seen then (3,seen) else match ns[i.toNat]? with
  |none=>(3,seen)
  |some n=>if jX n c=0 then lO (λk s=>vis ns f k (decide (n.k<=5)) s) n.kids.l (seen++[i]) else (jX n c,seen++[i])
def lA(p:Po):Int:=if (vis p.nodes.l 32 p.root true []).1=0 then (if (vis p.nodes.l 32 p.root true []).2.length=p.nodes.l.length then 0 else 3) else (vis p.nodes.l 32 p.root true []).1
def lB(p:Po):Bool:=aW p.name&&(decide (p.cD=[]) ||aW p.cD)&&(decide (p.scope=[]) ||gG p.scope) &&
 p.uses.l.all (λu=>aW u.al&&aW u.sc)&&p.aA.l.all (λr=>aW r.al&&aW r.attr)
def used(p:Po)(s:Bs):Bool:=p.uses.l.any λu=>decide (u.al=s)
def chk(p:Po):Int:=
 if 512<p.nodes.l.length∨p.uses.l.length<1∨4<p.uses.l.length∨64<p.aA.l.length then 6
 else if lB p=false then 3
 else if p.limit<0∨65536<p.limit∨(0<p.limit∧p.scope=[]) then 2
 else if lA p≠0 then lA p
 else if ¬ (p.uses.l.map Us.al).Nodup∨¬ p.aA.l.Nodup then 8
 else if p.aA.l.all (λr=>used p r.al)=false then 9
 else if p.nodes.l.all (λn=>!(decide (n.k=9)) ||used p n.nm)=false then 9
 else 0
/- The tree of a well-formed policy. -/
inductive Tr where
 |nd (i:Nat) (n:Nd) (ks:List Tr)
def Tr.i:Tr->Nat
 |.nd i _ _=>i
def Tr.n:Tr->Nd
 |.nd _ n _=>n
def Tr.ks:Tr->List Tr
 |.nd _ _ ks=>ks
mutual
def Tr.pre:Tr->List Nat
 |.nd i _ ks=>i :: Tr.dJ ks
def Tr.dJ:List Tr->List Nat
 | []=>[]
 |t :: ts=>t.pre++Tr.dJ ts
end
mutual
def Tr.dep:Tr->Nat
 |.nd _ _ ks=>Tr.deps ks+1
def Tr.deps:List Tr->Nat
 | []=>0
 |t :: ts=>max t.dep (Tr.deps ts)
end
mutual
def IsT(ns:List Nd):Tr->Prop
 |.nd i n ks=>ns[i]?=some n∧n.kids.l=ks.map (λt=>(t.i:Int))∧kY ns ks
def kY(ns:List Nd):List Tr->Prop
 | []=>True
 |t :: ts=>IsT ns t∧kY ns ts
end
mutual
def WF:Tr->Bool->Prop
 |.nd _ n ks,c=>jX n c=0∧WFs ks (decide (n.k<=5))
def WFs:List Tr->Bool->Prop
 | [],_=>True
 |t :: ts,c=>WF t c∧WFs ts c
end
abbrev ints(l:List Nat):List Int:=l.map λ(i:Nat)=>(i:Int)
theorem qG{ns:List Nd}{i:Int}{seen:List Int}:lu ns i seen=false↔0<=i∧i<(ns.length:Int)∧i∉seen:=by
 unfold lu;simp only[Bool.or_eq_false_iff,decide_eq_false_iff_not];constructor
 ·rintro⟨⟨h1,h2⟩,h3⟩;exact⟨by omega,by omega,h3⟩
 ·rintro⟨h1,h2,h3⟩;exact⟨⟨by omega,by omega⟩,h3⟩
mutual
theorem PL:∀ (t:Tr) {ns:List Nd} {f:Nat} {c:Bool} {seen:List Int},IsT ns t->WF t c->t.dep<=f->(seen++ints t.pre).Nodup->vis ns f t.i c seen=(0,seen++ints t.pre)
 |.nd i n ks,ns,f,c,seen,h1,h2,h3,h4=>by
  obtain⟨a1,a2,a3⟩:=h1;obtain⟨b1,b2⟩:=h2;cases f with
  |zero=>simp[Tr.dep]at h3
  |succ f=>
   have hlt:=(adW.1 a1).1;have hb:lu ns (i:Int) seen=false:=qG.2 ⟨by omega,by omega,λhm=>by
    simp only[Tr.pre,Io]at h4;have:=(aeQ.1 h4).2.2 _ hm (i:Int) (by simp);exact this rfl⟩
   have:=KD ks (ns:=ns) (f:=f) (c:=decide (n.k<=5)) (seen:=seen++[(i:Int)]) a3 b2 (by simp only[Tr.dep]at h3;omega) (by simpa[Tr.pre]using h4);show vis ns (f+1) (i:Int) c seen=_;rw[vis,hb];simp only[aef,if_false,aev,a1,b1,if_true,a2,this];simp[Tr.pre]
theorem KD:∀ (ts:List Tr) {ns:List Nd} {f:Nat} {c:Bool} {seen:List Int},kY ns ts->WFs ts c->Tr.deps ts<=f->(seen++ints (Tr.dJ ts)).Nodup->lO (λk s=>vis ns f k c s) (ts.map λt=>(t.i:Int)) seen=(0,seen++ints (Tr.dJ ts))
 | [],ns,f,c,seen,_,_,_,_=>by simp[lO,Tr.dJ]
 |t :: ts,ns,f,c,seen,h1,h2,h3,h4=>by
  have h4':((seen++ints t.pre)++ints (Tr.dJ ts)).Nodup:=by simpa[Tr.dJ]using h4
  have k1:=PL t (f:=f) (seen:=seen) h1.1 h2.1 (by simp only[Tr.deps]at h3;omega) (aeQ.1 h4').1;have k2:=KD ts (f:=f) (seen:=seen++ints t.pre) h1.2 h2.2 (by simp only[Tr.deps]at h3;omega) h4';simp only[Io,lO,k1,if_true,k2];simp[Tr.dJ]
end
theorem PM{ns:List Nd}{i:Int}{c:Bool}{seen s':List Int}(h:vis ns 0 i c seen=(0,s')):False:=by
 unfold vis at h;split at h<;>simp at h
theorem Dw{ns:List Nd}{f:Nat}{c:Bool}(ih:∀ (i:Int) (seen s':List Int),seen.Nodup->vis ns f i c seen=(0,s')->∃ t:Tr,IsT ns t∧(t.i:Int)=i∧WF t c∧t.dep<=f∧s'=seen++ints t.pre∧s'.Nodup) :
  ∀ (ks:List Int) (seen s':List Int),seen.Nodup->lO (λk s=>vis ns f k c s) ks seen=(0,s')->∃ ts:List Tr,kY ns ts∧ts.map (λt=>(t.i:Int))=ks∧WFs ts c∧Tr.deps ts<=f∧s'=seen++ints (Tr.dJ ts)∧s'.Nodup
 | [],seen,s',hn,h=>by
  simp only[lO,ad2,true_and]at h;subst h;exact⟨[],trivial,rfl,trivial,afg _,by simp[Tr.dJ],hn⟩
 |k :: ks,seen,s',hn,h=>by
  simp only[lO]at h;split at h
  ·rename_i h0;obtain⟨s1,hs1⟩:∃ s1,vis ns f k c seen=(0,s1):=⟨_,Prod.ext h0 rfl⟩
   rw[hs1]at h;obtain⟨t,a1,a2,a3,a4,a5,a6⟩:=ih k seen s1 hn hs1;obtain⟨ts,b1,b2,b3,b4,b5,b6⟩:=Dw ih ks s1 s' a6 h;refine⟨t :: ts,⟨a1,b1⟩,by simp[a2,b2],⟨a3,b3⟩,by simp only[Tr.deps];omega,?_,b6⟩;rw[b5,a5];simp[Tr.dJ]
  ·rename_i h0;rw[h]at h0;exact absurd rfl h0
theorem G3{ns:List Nd}:∀ (f:Nat) (c:Bool) (i:Int) (seen s':List Int),seen.Nodup->vis ns f i c seen=(0,s')->∃ t:Tr,IsT ns t∧(t.i:Int)=i∧WF t c∧t.dep<=f∧s'=seen++ints t.pre∧s'.Nodup
 | 0,c,i,seen,s',hn,h=>(PM h).elim
 |f+1,c,i,seen,s',hn,h=>by
  simp only[vis]at h;split at h
  ·simp at h
  ·rename_i hb;have hb:lu ns i seen=false:=by simpa using hb
   obtain⟨h0,h1,h2⟩:=qG.1 hb;split at h
   ·simp at h
   ·rename_i n hnd;split at h
    ·rename_i he;have hn2:(seen++[i]).Nodup:=by
      rw[aeQ];exact⟨hn,by simp,λa ha b hb2 e=>by
       simp only[aed]at hb2;rw[e,hb2]at ha;exact h2 ha⟩
     obtain⟨ts,b1,b2,b3,b4,b5,b6⟩:=Dw (G3 f (decide (n.k<=5))) n.kids.l (seen++[i]) s' hn2 h;refine⟨.nd i.toNat n ts,⟨hnd,b2.symm,b1⟩,Int.toNat_of_nonneg h0,⟨he,b3⟩,by simp only[Tr.dep];omega,?_,b6⟩;rw[b5];simp[Tr.pre,Int.toNat_of_nonneg h0]
    ·rename_i he;simp only[ad2]at h;exact absurd h.1 he
structure Good (p:Po)(t:Tr):Prop where
 sizes:p.nodes.l.length<=512∧1<=p.uses.l.length∧p.uses.l.length<=4∧p.aA.l.length<=64
 names:lB p=true
 limit:0<=p.limit∧p.limit<=65536∧(0<p.limit->p.scope≠[])
 isT:IsT p.nodes.l t
 root:(t.i:Int)=p.root
 wf:WF t true
 dep:t.dep<=32
 nodup:t.pre.Nodup
 all:t.pre.length=p.nodes.l.length
 aliases:(p.uses.l.map Us.al).Nodup
 Jc:p.aA.l.Nodup
 HJ:∀ r∈p.aA.l,used p r.al=true
 refs:∀ n∈p.nodes.l,n.k=9->used p n.nm=true
theorem sS{l:List Nat}:(ints l).Nodup↔l.Nodup:=by
 unfold List.Nodup;rw[List.pairwise_map];constructor
 ·exact λh=>h.imp λq e=>q (by rw[e])
 ·exact λh=>h.imp λq e=>q (by omega)
theorem FY{p:Po}(h:chk p=0):∃ t,Good p t:=by
 unfold chk at h;split at h
 ·simp at h
 rename_i h1;split at h
 ·simp at h
 rename_i h2;split at h
 ·simp at h
 rename_i h3;split at h
 ·rename_i h4;exact absurd h h4
 rename_i h4;split at h
 ·simp at h
 rename_i h5;split at h
 ·simp at h
 rename_i h6;split at h
 ·simp at h
 rename_i h7;have h4:lA p=0:=by simpa using h4
 unfold lA at h4;split at h4
 ·rename_i k1;split at h4
  ·rename_i k2;obtain⟨s',hs⟩:∃ s',vis p.nodes.l 32 p.root true []=(0,s'):=⟨_,Prod.ext k1 rfl⟩
   rw[hs]at k2;obtain⟨t,a1,a2,a3,a4,a5,a6⟩:=G3 32 true p.root [] s' (by simp) hs;simp only[aeb]at a5;subst a5;refine⟨t,⟨by omega,by omega,by omega,by omega⟩,by simpa using h2,⟨by omega,by omega,λq e=>h3 (.inr (.inr ⟨q,e⟩))⟩,a1,a2,a3,a4,sS.1 a6,by simpa using k2,?_,?_,?_,?_⟩
   ·exact afD.1 λq=>h5 (.inl q)
   ·exact afD.1 λq=>h5 (.inr q)
   ·have h6:p.aA.l.all (λr=>used p r.al)=true:=by simpa using h6
    exact aek.1 h6
   ·have h7:p.nodes.l.all (λn=>!(decide (n.k=9)) ||used p n.nm)=true:=by
     cases e:p.nodes.l.all (λn=>!(decide (n.k=9)) ||used p n.nm)
     ·exact absurd e h7
     ·rfl
    intro n hn hk;have:=aek.1 h7 n hn;simpa[hk]using this
  ·simp at h4
 ·rename_i k1;exact absurd h4 k1
theorem FO{p:Po}{t:Tr}(g:Good p t):chk p=0:=by
 have hv:=PL t (ns:=p.nodes.l) (f:=32) (c:=true) (seen:=[]) g.isT g.wf g.dep (by simpa using sS.2 g.nodup);rw[g.root]at hv;have ht:lA p=0:=by
  unfold lA;rw[hv];simp[g.all]
 unfold chk;have s:=g.sizes;rw[if_neg (by omega),if_neg (by rw[g.names];simp),if_neg (by
  have:=g.limit;rintro (q |q |⟨q1,q2⟩)
  ·omega
  ·omega
  ·exact this.2.2 q1 q2),if_neg (by simp[ht]),if_neg (by
  rintro (q |q)
  ·exact q g.aliases
  ·exact q g.Jc),if_neg (by
  rw[aek.2 g.HJ];simp),if_neg (by
  rw[aek.2 λn hn=>by
   by_cases hk:n.k=9
   ·simp[hk,g.refs n hn hk]
   ·simp[hk]]
  simp)]
end Go.Ab.Pol
/-
  We forms: thresholds, and that they adT what they were made from.
-/
namespace Go.Ab.Pol
inductive Cd where
 |atom (k num:Int) (vs:List Nd)
 |gate (need:Int) (kids:List Cd)
def Cd.isT:Cd->Bool
 |.atom k _ _=>decide (k=0)
 |.gate _ _=>false
def Cd.isF:Cd->Bool
 |.atom k _ _=>decide (k=1)
 |.gate _ _=>false
def cB(b:Bool):Cd:=.atom (if b then 0 else 1) 0 []
def cnt(h:Cd->Bool)(l:List Cd):Nat:=(l.filter h).length
theorem PN(h:Cd->Bool)(l:List Cd):cnt h l<=l.length:=afx _ _
theorem fP(h:Cd->Bool)(c:Cd)(l:List Cd):cnt h (c :: l)=(if h c then 1 else 0)+cnt h l:=by
 unfold cnt;by_cases hc:h c=true
 ·simp[hc];omega
 ·simp[hc]
theorem uW{h:Cd->Bool}:∀ {l:List Cd},(l.length<=cnt h l↔l.all h=true)
 | []=>by simp[cnt]
 |c :: l=>by
  have:=PN h l;rw[fP,ad1,aeG,ad8,<-uW (l:=l)];by_cases hc:h c=true
  ·simp[hc];omega
  ·simp[hc];omega
theorem zG{h:Cd->Bool}:∀ {l:List Cd},(1<=cnt h l↔l.any h=true)
 | []=>by simp[cnt]
 |c :: l=>by
  rw[fP,aeJ,aeT,<-zG (l:=l)];by_cases hc:h c=true
  ·simp[hc]
  ·simp[hc]
def rest(l:List Cd):List Cd:=l.filter λc=>!c.isT && !c.isF
def dD(l:List Cd):Nat:=(l.filter Cd.isT).length
def cE(whole:Bool)(k:Int):Cd->List Cd
 |.gate need ks=>if (whole&&decide (need=(ks.length:Int))) ||(!whole&&decide (k=1)&&decide (need=1)) then ks else [.gate need ks]
 |c=>[c]
def aY(whole:Bool)(k:Int):List Cd->List Cd
 | []=>[]
 |c :: l=>cE whole k c++aY whole k l
def thr(k:Int)(l:List Cd):Cd:=
 if k-dD l<=0 then cB true
 else if ((rest l).length:Int)<k-dD l then cB false
 else match rest l with
  | [c]=>c
  |r=>if k-dD l=(r.length:Int) then .gate ((aY true (k-dD l) r).length:Int) (aY true (k-dD l) r)
   else .gate (k-dD l) (aY false (k-dD l) r)
structure Says (at_:Int->Int->List Nd->Bool)(h:Cd->Bool):Prop where
 tru:∀ n vs,h (.atom 0 n vs)=true
 fls:∀ n vs,h (.atom 1 n vs)=false
 atm:∀ k n vs,k≠0->k≠1->h (.atom k n vs)=at_ k n vs
 gat:∀ n ks,h (.gate n ks)=decide (n<=(cnt h ks:Int))
section
variable{at_:Int->Int->List Nd->Bool}{h:Cd->Bool}
theorem dF(s:Says at_ h)(b:Bool):h (cB b)=b:=by
 cases b
 ·exact s.fls _ _
 ·exact s.tru _ _
theorem G5(s:Says at_ h):∀ l:List Cd,cnt h l=dD l+cnt h (rest l)
 | []=>rfl
 |c :: l=>by
  have ih:=G5 s l;unfold dD rest at ih ⊢;rw[fP,ih];cases c with
  |gate n ks=>simp only[Cd.isT,Cd.isF,afl];simp[fP];omega
  |atom k n vs=>
   by_cases h0:k=0
   ·subst h0;have:=s.tru n vs;simp[Cd.isT,Cd.isF,this];omega
   ·by_cases h1:k=1
    ·subst h1;have:=s.fls n vs;simp[Cd.isT,Cd.isF,this]
    ·simp[Cd.isT,Cd.isF,h0,h1,fP];omega
theorem Dx(s:Says at_ h)(k:Int):∀ l:List Cd,(aY true k l).all h=l.all h
 | []=>rfl
 |c :: l=>by
  have ih:=Dx s k l;simp only[aY,List.all_append,aeG,ih]
  congr 1
  cases c with
  |atom k n vs=>simp[cE]
  |gate n ks=>
   simp only[cE];by_cases hn:n=(ks.length:Int)
   ·simp only[hn,decide_true,Bool.and_self,afp,if_true];rw[s.gat];have:=uW (h:=h) (l:=ks);by_cases ha:ks.all h=true
    ·rw[ha];symm;simp;exact this.2 ha
    ·have h2:¬ ks.length<=cnt h ks:=λq=>ha (this.1 q)
     have h3:ks.all h=false:=by simpa using ha
     rw[h3];symm;simp;omega
   ·simp[hn]
theorem Dy(s:Says at_ h):∀ l:List Cd,(aY false 1 l).any h=l.any h
 | []=>rfl
 |c :: l=>by
  have ih:=Dy s l;simp only[aY,List.any_append,aeJ,ih]
  congr 1
  cases c with
  |atom k n vs=>simp[cE]
  |gate n ks=>
   simp only[cE];by_cases hn:n=1
   ·subst hn;simp only[ae7,Bool.not_false,decide_true,Bool.and_self,Bool.or_true,if_true];rw[s.gat];have:=zG (h:=h) (l:=ks);by_cases ha:ks.any h=true
    ·have:=this.2 ha;rw[ha];symm;simp;omega
    ·have h2:¬ 1<=cnt h ks:=λq=>ha (this.1 q)
     have h3:ks.any h=false:=by simpa using ha
     rw[h3];symm;simp;omega
   ·simp[hn]
theorem tK{k:Int}(hk:k≠1):∀ l:List Cd,aY false k l=l
 | []=>rfl
 |c :: l=>by
  rw[aY,tK hk l];cases c<;>simp[cE,hk]
theorem PO(s:Says at_ h)(k:Int)(l:List Cd):h (thr k l)=decide (k<=(cnt h l:Int)):=by
 have e:=G5 s l;have hle:=PN h (rest l);unfold thr;by_cases h1:k-dD l<=0
 ·rw[if_pos h1,dF s];symm;simp;omega
 rw[if_neg h1];by_cases h2:((rest l).length:Int)<k-dD l
 ·rw[if_pos h2,dF s];symm;simp;omega
 rw[if_neg h2];split
 ·rename_i c hr;rw[hr]at e h2;have e2:cnt h [c]=if h c then 1 else 0:=by rw[fP];simp[cnt]
  rw[e2]at e;simp only[afd]at h2;by_cases hc:h c=true
  ·rw[hc]at e ⊢;symm;simp at e ⊢;omega
  ·have hc:h c=false:=by simpa using hc
   rw[hc]at e ⊢;symm;simp at e ⊢;omega
 ·by_cases h3:k-dD l=((rest l).length:Int)
  ·rw[if_pos h3,s.gat];have a1:=uW (h:=h) (l:=aY true (k-dD l) (rest l));have a2:=uW (h:=h) (l:=rest l);rw[Dx s]at a1;have a3:((aY true (k-dD l) (rest l)).length<=cnt h (aY true (k-dD l) (rest l)))↔(rest l).length<=cnt h (rest l):=a1.trans a2.symm;by_cases q:(rest l).length<=cnt h (rest l)
   ·have q2:=a3.2 q;have:decide (k<=(cnt h l:Int))=true:=by simp;omega
    rw[this];simp;omega
   ·have q2:¬ (aY true (k-dD l) (rest l)).length<=cnt h (aY true (k-dD l) (rest l)):=λx=>q (a3.1 x)
    have:decide (k<=(cnt h l:Int))=false:=by simp;omega
    rw[this];simp;omega
  ·rw[if_neg h3,s.gat];by_cases h4:k-dD l=1
   ·rw[h4];have a1:=zG (h:=h) (l:=aY false 1 (rest l));have a2:=zG (h:=h) (l:=rest l);rw[Dy s]at a1;have a3:=a1.trans a2.symm;by_cases q:1<=cnt h (rest l)
    ·have q2:=a3.2 q;have:decide (k<=(cnt h l:Int))=true:=by simp;omega
     rw[this];simp;omega
    ·have q2:¬ 1<=cnt h (aY false 1 (rest l)):=λx=>q (a3.1 x)
     have:decide (k<=(cnt h l:Int))=false:=by simp;omega
     rw[this];simp;omega
   ·rw[tK h4];by_cases q:k<=(cnt h l:Int)
    ·have:decide (k<=(cnt h l:Int))=true:=by simp[q]
     rw[this];simp;omega
    ·have:decide (k<=(cnt h l:Int))=false:=by simp[q]
     rw[this];simp;omega
end
end Go.Ab.Pol
/-
  Jm, values of nodes, and the normal form of a condition: it PD what the condition PD.
-/
namespace Go.Ab.Pol
structure Fd where
 name:Bs
 kind:Int
 mn:Int
 mx:Int
 words:Sl Bs
structure Sc where
 name:Bs
 fields:Sl Fd
abbrev Fd.cs(x:Fd):List AV:=[.str x.name,iV x.kind,iV x.mn,iV x.mx,x.words.avS .str]
abbrev Fd.av(x:Fd):AV:=.agg x.cs
abbrev Sc.cs(x:Sc):List AV:=[.str x.name,x.fields.avS Fd.av]
abbrev Sc.av(x:Sc):AV:=.agg x.cs
def kC:List Bs->List Bs->Int
 |_,[]=>0
 |met,w :: l=>if gG w=false then 1 else if w∈met then 8 else kC (met++[w]) l
def sV(l:List Bs):Int:=if l.length<1∨64<l.length then 6 else kC [] l
def dh(f:Fd):Int:=
 if f.kind=0 then (if f.words.l≠[] then 3 else if f.mn < -2147483648∨2147483647<f.mx∨f.mx<f.mn then 2 else 0)
 else if f.kind=1 then (if f.mn≠0∨f.mx≠0 then 3 else sV f.words.l) else 3
def fT:List Bs->List Fd->Int
 |_,[]=>0
 |met,f :: l=>if aW f.name=false then 1 else if f.name∈met then 8 else if dh f≠0 then dh f else fT (met++[f.name]) l
def ju(s:Sc):Int:=if aW s.name=false then 1 else if s.fields.l.length<1∨16<s.fields.l.length then 6 else fT [] s.fields.l
def nP(us:List Us)(al:Bs):Option Nat:=us.findIdx? λu=>decide (u.al=al)
def scN(l:List Sc)(nm:Bs):Option Sc:=l.find? λs=>decide (s.name=nm)
def fdI(s:Sc)(nm:Bs):Option Nat:=s.fields.l.findIdx? λf=>decide (f.name=nm)
def findF(us:List Us)(l:List Sc)(r:Rf):Option (Nat×Nat×Fd):=match nP us r.al with
 |none=>none
 |some u=>match us[u]? with
  |none=>none
  |some x=>match scN l x.sc with
   |none=>none
   |some s=>match fdI s r.attr with
    |none=>none
    |some k=>match s.fields.l[k]? with
     |none=>none
     |some f=>some (u,k,f)
def zFd:Fd:=⟨[],0,0,0,⟨true,[]⟩⟩
/- Values. -/
inductive Vl where
 |num (n:Int)
 |word (w:Bs)
 deriving DecidableEq
def dG(how a b:Int):Bool:=
 if how=0 then decide (a=b) else if how=1 then decide (a≠b) else if how=2 then decide (a<b) else if how=3 then decide (a<=b) else if how=4 then decide (a > b) else decide (a≥b)
def dx(how:Int):Vl->Vl->Bool
 |.num a,.num b=>dG how a b
 |.word a,.word b=>if how=0 then decide (a=b) else decide (a≠b)
 |_,_=>false
def complement(how:Int):Int:=if how=0 then 1 else if how=1 then 0 else if how=2 then 5 else if how=3 then 4 else if how=4 then 3 else 2
def dm(how:Int):Int:=if how=0 then 0 else if how=1 then 1 else if how=2 then 4 else if how=3 then 5 else if how=4 then 2 else 3
def How(h:Int):Prop:=h=0∨h=1∨h=2∨h=3∨h=4∨h=5
theorem xR{h:Int}(hh:How h)(a b:Int):dG (dm h) b a=dG h a b:=by
 rcases hh with rfl |rfl |rfl |rfl |rfl |rfl<;>simp[dG,dm]<;>(try omega)<;>(constructor<;>intro e<;>omega)
theorem IP{h:Int}(hh:How h)(a b:Int):dG (complement h) a b=!dG h a b:=by
 rcases hh with rfl |rfl |rfl |rfl |rfl |rfl<;>simp[dG,complement]
 all_goals (rw[aem];simp;try omega)
theorem nR{h:Int}(hh:How h):How (dm h):=by
 rcases hh with rfl |rfl |rfl |rfl |rfl |rfl<;>simp[How,dm]
theorem vU{h:Int}(hh:How h):How (complement h):=by
 rcases hh with rfl |rfl |rfl |rfl |rfl |rfl<;>simp[How,complement]
/- The normal form. `fd`: the field of a node that stands for one. -/
section
variable(fd:Nd->Fd)
def dL(how:Int)(a b:Nd):Cd:=.atom 6 how [a,b]
def bw(n:Int):Nd:=⟨10,n,[],[],⟨true,[]⟩,0⟩
def within(x:Nd)(lo hi:Int):Cd:=
 if min hi (fd x).mx<max lo (fd x).mn then cB false
 else if max lo (fd x).mn=(fd x).mn∧min hi (fd x).mx=(fd x).mx then cB true
 else if max lo (fd x).mn=min hi (fd x).mx then dL 0 x (bw (max lo (fd x).mn))
 else .atom 7 0 [x,bw (max lo (fd x).mn),bw (min hi (fd x).mx)]
def bounded(how:Int)(x:Nd)(c:Int):Cd:=
 if how=0 then within fd x c c else if how=2 then within fd x (fd x).mn (c-1) else if how=3 then within fd x (fd x).mn c
 else if how=4 then within fd x (c+1) (fd x).mx else if how=5 then within fd x c (fd x).mx
 else if c<(fd x).mn∨(fd x).mx<c then cB true else if (fd x).mn=(fd x).mx then cB false else dL 1 x (bw c)
def bH(how:Int)(a b:Nd):Cd:=
 if how=0 then (if ((fd a).mn-(fd b).mx=0∧(fd a).mx-(fd b).mn=0)∨(0<(fd a).mn-(fd b).mx∨(fd a).mx-(fd b).mn<0) then cB (decide ((fd a).mn-(fd b).mx=0∧(fd a).mx-(fd b).mn=0)) else dL how a b)
 else if how=1 then (if (0<(fd a).mn-(fd b).mx∨(fd a).mx-(fd b).mn<0)∨((fd a).mn-(fd b).mx=0∧(fd a).mx-(fd b).mn=0) then cB (decide (0<(fd a).mn-(fd b).mx∨(fd a).mx-(fd b).mn<0)) else dL how a b)
 else if how=2 then (if (fd a).mx-(fd b).mn<0∨0<=(fd a).mn-(fd b).mx then cB (decide ((fd a).mx-(fd b).mn<0)) else dL how a b)
 else if how=3 then (if (fd a).mx-(fd b).mn<=0∨0<(fd a).mn-(fd b).mx then cB (decide ((fd a).mx-(fd b).mn<=0)) else dL how a b)
 else dL how a b
def numbers(how:Int)(a b:Nd):Cd:=if how=4∨how=5 then bH fd (dm how) b a else bH fd how a b
def bE(how:Int)(a b:Nd):Cd:=
 if a.k=10 then cB (dG how a.num b.num)
 else if a.k=11 then cB (decide (a.nm=b.nm)==decide (how=0))
 else if b.k=10 then bounded fd how a b.num
 else if b.k=9∧a.nm=b.nm∧a.attr=b.attr then cB (dG how 0 0)
 else if (fd a).kind=0 then numbers fd how a b
 else if (fd a).words.l.length=1 then cB (decide (how=0))
 else dL how a b
def values(how:Int)(a b:Nd):Cd:=if a.k≠9∧b.k=9 then bE fd (dm how) b a else bE fd how a b
def sg(neg:Bool)(how:Int):Int:=if neg then complement how else how
def ofC(neg:Bool)(k:Int)(l:List Cd):Cd:=thr (if neg then (l.length:Int)-k+1 else k) l
def bG(ks:List Tr)(i:Nat):Nd:=match ks[i]? with
 |some t=>t.n
 |none=>bw 0
mutual
def norm(neg:Bool):Tr->Cd
 |.nd _ n ks=>
  if n.k=0 then cB (!neg) else if n.k=1 then cB neg
  else if n.k=2 then KA neg ks
  else if n.k=6 then values fd (sg neg n.num) (bG ks 0) (bG ks 1)
  else if n.k=7 then (if neg=false∧(bG ks 0).k=9∧(bG ks 1).k=10∧(bG ks 2).k=10 then within fd (bG ks 0) (bG ks 1).num (bG ks 2).num
   else ofC neg 2 [values fd (sg neg 5) (bG ks 0) (bG ks 1),values fd (sg neg 3) (bG ks 0) (bG ks 2)])
  else if n.k=8 then ofC neg 1 ((ks.drop 1).map λt=>values fd (sg neg 0) (bG ks 0) t.n)
  else if n.k=3 then ofC neg (ks.length:Int) (gh neg ks)
  else if n.k=4 then ofC neg 1 (gh neg ks)
  else ofC neg n.num (gh neg ks)
def gh(neg:Bool):List Tr->List Cd
 | []=>[]
 |t :: ts=>norm neg t :: gh neg ts
def KA(neg:Bool):List Tr->Cd
 | []=>cB true
 |t :: _=>norm (!neg) t
end
end
/- What conditions say. -/
section
variable(vl:Nd->Vl)
mutual
def truth:Tr->Bool
 |.nd _ n ks=>
  if n.k=0 then true else if n.k=1 then false
  else if n.k=2 then decide (cT ks=0)
  else if n.k=3 then decide (cT ks=ks.length)
  else if n.k=4 then decide (0<cT ks)
  else if n.k=5 then decide (n.num<=(cT ks:Int))
  else if n.k=6 then dx n.num (vl (bG ks 0)) (vl (bG ks 1))
  else if n.k=7 then dx 5 (vl (bG ks 0)) (vl (bG ks 1))&&dx 3 (vl (bG ks 0)) (vl (bG ks 2))
  else (ks.drop 1).any λt=>dx 0 (vl (bG ks 0)) (vl t.n)
def cT:List Tr->Nat
 | []=>0
 |t :: ts=>(if truth t then 1 else 0)+cT ts
end
def atC(k num:Int)(vs:List Nd):Bool:=match vs with
 | [a,b]=>dx num (vl a) (vl b)
 | [a,b,c]=>dx 5 (vl a) (vl b)&&dx 3 (vl a) (vl c)
 |_=>false
mutual
def bD:Cd->Bool
 |.atom k num vs=>if k=0 then true else if k=1 then false else atC vl k num vs
 |.gate n ks=>decide (n<=(uT ks:Int))
def uT:List Cd->Nat
 | []=>0
 |c :: cs=>(if bD c then 1 else 0)+uT cs
end
theorem wV:∀ l:List Cd,uT vl l=cnt (bD vl) l
 | []=>rfl
 |c :: l=>by rw[uT,fP,wV l]
theorem rz:Says (atC vl) (bD vl) where
 tru n vs:=by simp[bD]
 fls n vs:=by simp[bD]
 atm k n vs h0 h1:=by simp[bD,h0,h1]
 gat n ks:=by simp[bD,wV]
end
structure lU (fd:Nd->Fd)(vl:Nd->Vl):Prop where
 num:∀ n,n.k=10->vl n=.num n.num
 word:∀ n,n.k=11->vl n=.word n.nm
 same:∀ a b,a.k=9->b.k=9->a.nm=b.nm->a.attr=b.attr->vl a=vl b
 vE:∀ n,n.k=9->(fd n).kind=0->∃ x,vl n=.num x∧(fd n).mn<=x∧x<=(fd n).mx
 Al:∀ n,n.k=9->(fd n).kind≠0->∃ w,vl n=.word w∧w∈(fd n).words.l
def Fits(fd:Nd->Fd)(how:Int)(a b:Nd):Prop:=
  How how∧(a.k=9∨a.k=10∨a.k=11)∧(b.k=9∨b.k=10∨b.k=11) ∧
  ((((a.k=9∧(fd a).kind=0)∨a.k=10)∧((b.k=9∧(fd b).kind=0)∨b.k=10)) ∨
   ((how=0∨how=1)∧((a.k=9∧(fd a).kind≠0)∨a.k=11)∧((b.k=9∧(fd b).kind≠0)∨b.k=11) ∧
     (a.k=9->b.k=9->(fd a).words.l=(fd b).words.l)∧(a.k=9->b.k=11->b.nm∈(fd a).words.l)∧(a.k=11->b.k=9->a.nm∈(fd b).words.l)))
section
variable{fd:Nd->Fd}{vl:Nd->Vl}
theorem xS(V:lU fd vl){x:Nd}{n:Int}(hx:vl x=.num n)(h1:(fd x).mn<=n)(h2:n<=(fd x).mx)(lo hi:Int):bD vl (within fd x lo hi)=decide (lo<=n∧n<=hi):=by
 have s:=rz vl;have hn:∀ m,vl (bw m)=.num m:=λm=>V.num _ rfl
 unfold within;split
 ·rw[dF s];symm;simp;omega
 split
 ·rw[dF s];symm;simp;omega
 split
 ·simp only[dL,bD,atC,hx,hn,dx,dG];simp;rw[aem];simp;omega
 ·simp only[bD,atC,hx,hn,dx,dG];simp;rw[aem];simp;omega
theorem EN(V:lU fd vl){x:Nd}{n:Int}(hx:vl x=.num n)(h1:(fd x).mn<=n)(h2:n<=(fd x).mx){how:Int}(hh:How how)(c:Int):bD vl (bounded fd how x c)=dG how n c:=by
 have s:=rz vl;have hn:∀ m,vl (bw m)=.num m:=λm=>V.num _ rfl
 have k:=xS V hx h1 h2;rcases hh with rfl |rfl |rfl |rfl |rfl |rfl
 ·simp[bounded,k,dG];rw[aem];simp;omega
 ·simp only[bounded];simp;split
  ·rw[dF s];symm;simp[dG];omega
  split
  ·rw[dF s];symm;simp[dG];omega
  ·simp[dL,bD,atC,hx,hn,dx]
 ·simp[bounded,k,dG];rw[aem];simp;omega
 ·simp[bounded,k,dG];omega
 ·simp[bounded,k,dG];rw[aem];simp;omega
 ·simp[bounded,k,dG];omega
theorem rR(V:lU fd vl){a b:Nd}{m n:Int}(ha:vl a=.num m)(a1:(fd a).mn<=m)(a2:m<=(fd a).mx)(hb:vl b=.num n)(b1:(fd b).mn<=n)(b2:n<=(fd b).mx){how:Int}(hh:How how) :
  bD vl (bH fd how a b)=dG how m n:=by
 have s:=rz vl;have hr:bD vl (dL how a b)=dG how m n:=by simp[dL,bD,atC,ha,hb,dx]
 rcases hh with rfl |rfl |rfl |rfl |rfl |rfl
 ·simp only[bH,if_true];split
  ·rw[dF s];simp only[dG,if_true];rw[aem];simp;omega
  ·exact hr
 ·simp only[bH,if_true];simp only[show ¬ (1:Int)=0 by decide,if_false];split
  ·rw[dF s];simp[dG];rw[aem];simp;omega
  ·exact hr
 ·simp only[bH,if_true];simp only[show ¬ (2:Int)=0 by decide,show ¬ (2:Int)=1 by decide,if_false];split
  ·rw[dF s];simp[dG];omega
  ·exact hr
 ·simp only[bH,if_true];simp only[show ¬ (3:Int)=0 by decide,show ¬ (3:Int)=1 by decide,show ¬ (3:Int)=2 by decide,if_false];split
  ·rw[dF s];simp[dG];omega
  ·exact hr
 ·simpa[bH]using hr
 ·simpa[bH]using hr
theorem EO(V:lU fd vl){a b:Nd}{m n:Int}(ha:vl a=.num m)(a1:(fd a).mn<=m)(a2:m<=(fd a).mx)(hb:vl b=.num n)(b1:(fd b).mn<=n)(b2:n<=(fd b).mx){how:Int}(hh:How how) :
  bD vl (numbers fd how a b)=dG how m n:=by
 unfold numbers;split
 ·rw[rR V hb b1 b2 ha a1 a2 (nR hh),xR hh]
 ·exact rR V ha a1 a2 hb b1 b2 hh
theorem uX(V:lU fd vl){how:Int}{a b:Nd}(hf:Fits fd how a b)(hsw:¬ (a.k≠9∧b.k=9)):bD vl (bE fd how a b)=dx how (vl a) (vl b):=by
 have s:=rz vl;obtain⟨hh,ka,kb,hf⟩:=hf;unfold bE;rcases hf with⟨fa,fb⟩ |⟨hw,fa,fb,w1,w2,w3⟩
 ·rcases fa with⟨fa,fa2⟩ |fa
  ·obtain⟨m,va,a1,a2⟩:=V.vE a fa fa2;rw[if_neg (by omega),if_neg (by omega)];rcases fb with⟨fb,fb2⟩ |fb
   ·obtain⟨n,vb,b1,b2⟩:=V.vE b fb fb2;rw[if_neg (by omega)];split
    ·rename_i hs;rw[dF s,V.same a b fa fb hs.2.1 hs.2.2,vb];simp only[dx,dG];rcases hh with rfl |rfl |rfl |rfl |rfl |rfl<;>simp
    ·try rw[if_pos fa2]
     rw[EO V va a1 a2 vb b1 b2 hh,va,vb];rfl
   ·rw[if_pos fb,EN V va a1 a2 hh,va,V.num b fb];rfl
  ·rcases fb with⟨fb,_⟩ |fb
   ·exact absurd ⟨by omega,fb⟩ hsw
   ·rw[if_pos fa,dF s,V.num a fa,V.num b fb];rfl
 ·rcases fa with⟨fa,fa2⟩ |fa
  ·obtain⟨u,va,a1⟩:=V.Al a fa fa2;rw[if_neg (by omega),if_neg (by omega)];rcases fb with⟨fb,fb2⟩ |fb
   ·obtain⟨v,vb,b1⟩:=V.Al b fb fb2;rw[if_neg (by omega)];split
    ·rename_i hs;rw[dF s,V.same a b fa fb hs.2.1 hs.2.2,vb];simp only[dx,dG];rcases hw with rfl |rfl<;>simp
    ·try rw[if_neg fa2]
     split
     ·rename_i h1;rw[dF s,va,vb];obtain⟨z,hz⟩:=afA.1 h1;rw[<-w1 fa fb,hz]at b1;rw[hz]at a1;simp only[aed]at a1 b1;subst a1 b1;simp only[dx];rcases hw with rfl |rfl<;>simp
     ·simp[dL,bD,atC]
   ·rw[if_neg (by omega),if_neg (by omega),if_neg fa2];split
    ·rename_i h1;rw[dF s,va,V.word b fb];obtain⟨z,hz⟩:=afA.1 h1;have b1:=w2 fa fb;rw[hz]at a1 b1;simp only[aed]at a1 b1;rw[a1,b1];simp only[dx];rcases hw with rfl |rfl<;>simp
    ·simp[dL,bD,atC]
  ·rcases fb with⟨fb,_⟩ |fb
   ·exact absurd ⟨by omega,fb⟩ hsw
   ·rw[if_neg (by omega),if_pos fa,dF s,V.word a fa,V.word b fb];simp only[dx];rcases hw with rfl |rfl
    ·simp
    ·by_cases e:a.nm=b.nm<;>simp[e]
theorem G6{how:Int}(hh:How how)(x y:Vl):dx (dm how) y x=dx how x y:=by
 cases x<;>cases y<;>simp only[dx]
 ·exact xR hh _ _
 ·rcases hh with rfl |rfl |rfl |rfl |rfl |rfl<;>simp[dm,eq_comm]
theorem G7{how:Int}{a b:Nd}(hf:Fits fd how a b):Fits fd (dm how) b a:=by
 obtain⟨hh,ka,kb,hf⟩:=hf;refine⟨nR hh,kb,ka,?_⟩;rcases hf with⟨fa,fb⟩ |⟨hw,fa,fb,w1,w2,w3⟩
 ·exact .inl ⟨fb,fa⟩
 ·refine .inr ⟨?_,fb,fa,λx y=>(w1 y x).symm,λx y=>w3 y x,λx y=>w2 y x⟩;rcases hw with rfl |rfl<;>simp[dm]
theorem xU(V:lU fd vl){how:Int}{a b:Nd}(hf:Fits fd how a b):bD vl (values fd how a b)=dx how (vl a) (vl b):=by
 unfold values;split
 ·rename_i h;rw[uX V (G7 hf) (by omega),G6 hf.1]
 ·rename_i h;exact uX V hf h
theorem IQ(V:lU fd vl){how:Int}{a b:Nd}(hf:Fits fd how a b):dx (complement how) (vl a) (vl b)=!dx how (vl a) (vl b):=by
 obtain⟨hh,ka,kb,hf⟩:=hf;rcases hf with⟨fa,fb⟩ |⟨hw,fa,fb,w1,w2,w3⟩
 ·have va:∃ m,vl a=.num m:=by
   rcases fa with⟨fa,fa2⟩ |fa
   ·obtain⟨m,va,_⟩:=V.vE a fa fa2;exact⟨m,va⟩
   ·exact⟨_,V.num a fa⟩
  have vb:∃ m,vl b=.num m:=by
   rcases fb with⟨fb,fb2⟩ |fb
   ·obtain⟨m,vb,_⟩:=V.vE b fb fb2;exact⟨m,vb⟩
   ·exact⟨_,V.num b fb⟩
  obtain⟨m,va⟩:=va;obtain⟨n,vb⟩:=vb;rw[va,vb];exact IP hh m n
 ·have va:∃ m,vl a=.word m:=by
   rcases fa with⟨fa,fa2⟩ |fa
   ·obtain⟨m,va,_⟩:=V.Al a fa fa2;exact⟨m,va⟩
   ·exact⟨_,V.word a fa⟩
  have vb:∃ m,vl b=.word m:=by
   rcases fb with⟨fb,fb2⟩ |fb
   ·obtain⟨m,vb,_⟩:=V.Al b fb fb2;exact⟨m,vb⟩
   ·exact⟨_,V.word b fb⟩
  obtain⟨m,va⟩:=va;obtain⟨n,vb⟩:=vb;rw[va,vb];rcases hw with rfl |rfl<;>simp[dx,complement]
theorem IU{how:Int}{a b:Nd}(hf:Fits fd how a b):Fits fd (complement how) a b:=by
 obtain⟨hh,ka,kb,hf⟩:=hf;refine⟨vU hh,ka,kb,?_⟩;rcases hf with h |⟨hw,r⟩
 ·exact .inl h
 ·refine .inr ⟨?_,r⟩;rcases hw with rfl |rfl<;>simp[complement]
theorem rA(V:lU fd vl){how:Int}{a b:Nd}(hf:Fits fd how a b)(neg:Bool):bD vl (values fd (sg neg how) a b)=(dx how (vl a) (vl b) != neg):=by
 cases neg
 ·simp[sg,xU V hf]
 ·simp[sg,xU V (IU hf),IQ V hf]
end
/- Trees of the right types. -/
section
variable(fd:Nd->Fd)
mutual
def Ty:Tr->Prop
 |.nd _ n ks=>0<=n.k∧n.k<=8∧(n.k=2->ks.length=1)∧(n.k<=5->Tys ks) ∧
  (n.k=6->Fits fd n.num (bG ks 0) (bG ks 1)) ∧
  (n.k=7->Fits fd 5 (bG ks 0) (bG ks 1)∧Fits fd 3 (bG ks 0) (bG ks 2)) ∧
  (n.k=8->∀ t∈ks.drop 1,Fits fd 0 (bG ks 0) t.n)
def Tys:List Tr->Prop
 | []=>True
 |t :: ts=>Ty t∧Tys ts
end
theorem jk(neg:Bool):∀ ts:List Tr,(gh fd neg ts).length=ts.length
 | []=>rfl
 |t :: ts=>by simp[gh,jk neg ts]
end
section
variable{fd:Nd->Fd}{vl:Nd->Vl}
theorem wW(vl:Nd->Vl):∀ ts:List Tr,cT vl ts<=ts.length
 | []=>adX _
 |t :: ts=>by
  have:=wW vl ts;simp only[cT,ad1];split<;>omega
theorem qp{vl:Nd->Vl}(neg:Bool)(k:Int){l:List Cd}{tr:Nat}(hc:cnt (bD vl) l=if neg then l.length-tr else tr)(ht:tr<=l.length):bD vl (ofC neg k l)=(decide (k<=(tr:Int)) != neg):=by
 unfold ofC;rw[PO (rz vl),hc];cases neg
 ·simp
 ·simp only[if_true];by_cases q:k<=(tr:Int)
  ·have:¬ (l.length:Int)-k+1<=((l.length-tr:Nat):Int):=by omega
   simp[q,this]
  ·have:(l.length:Int)-k+1<=((l.length-tr:Nat):Int):=by omega
   simp[q,this]
theorem KE{vl:Nd->Vl}{α:Type}(f:α->Cd)(g:α->Bool)(neg:Bool):∀ {l:List α},(∀ x∈l,bD vl (f x)=(g x != neg))->cnt (bD vl) (l.map f)=if neg then l.length-(l.filter g).length else (l.filter g).length
 | [],_=>by cases neg<;>rfl
 |x :: l,h=>by
  have ih:=KE f g neg (l:=l) λy hy=>h y (by simp[hy])
  have hx:=h x (by simp);have hle:=afx g l;rw[Io,fP,ih,hx];cases neg<;>by_cases hg:g x=true<;>simp[hg]<;>omega
mutual
theorem mF(V:lU fd vl):∀ (t:Tr) (neg:Bool),Ty fd t->bD vl (norm fd neg t)=(truth vl t != neg)
 |.nd i n ks,neg,ty=>by
  obtain⟨k0,k8,c2,c5,c6,c7,c8⟩:=ty;have s:=rz vl;have hle:=wW vl ks;unfold norm truth;by_cases e0:n.k=0
  ·simp[e0,dF s]
  by_cases e1:n.k=1
  ·simp[e1,dF s]
  by_cases e2:n.k=2
  ·rw[if_neg e0,if_neg e1,if_pos e2,if_neg e0,if_neg e1,if_pos e2];obtain⟨t,rfl⟩:=afA.1 (c2 e2);have ih:=mF V t (!neg) (c5 (by omega)).1;simp only[KA,ih,cT];by_cases ht:truth vl t=true<;>cases neg<;>simp[ht]
  by_cases e3:n.k=3
  ·have hc:=og V ks neg (c5 (by omega));rw[if_neg e0,if_neg e1,if_neg e2,if_neg (by omega),if_neg (by omega),if_neg (by omega),if_pos e3,if_neg e0,if_neg e1,if_neg e2,if_pos e3,qp neg _ (by rw[jk];exact hc) (by rw[jk];exact hle)]
   congr 1
   simp;omega
  by_cases e4:n.k=4
  ·have hc:=og V ks neg (c5 (by omega));rw[if_neg e0,if_neg e1,if_neg e2,if_neg (by omega),if_neg (by omega),if_neg (by omega),if_neg e3,if_pos e4,if_neg e0,if_neg e1,if_neg e2,if_neg e3,if_pos e4,qp neg _ (by rw[jk];exact hc) (by rw[jk];exact hle)]
   congr 1
   simp;omega
  by_cases e5:n.k=5
  ·have hc:=og V ks neg (c5 (by omega));rw[if_neg e0,if_neg e1,if_neg e2,if_neg (by omega),if_neg (by omega),if_neg (by omega),if_neg e3,if_neg e4,if_neg e0,if_neg e1,if_neg e2,if_neg e3,if_neg e4,if_pos e5,qp neg _ (by rw[jk];exact hc) (by rw[jk];exact hle)]
  by_cases e6:n.k=6
  ·rw[if_neg e0,if_neg e1,if_neg e2,if_pos e6,if_neg e0,if_neg e1,if_neg e2,if_neg e3,if_neg e4,if_neg e5,if_pos e6];exact rA V (c6 e6) neg
  by_cases e7:n.k=7
  ·rw[if_neg e0,if_neg e1,if_neg e2,if_neg e6,if_pos e7,if_neg e0,if_neg e1,if_neg e2,if_neg e3,if_neg e4,if_neg e5,if_neg e6,if_pos e7];obtain⟨f1,f2⟩:=c7 e7;split
   ·rename_i q;obtain⟨rfl,q1,q2,q3⟩:=q;have hkd:(fd (bG ks 0)).kind=0:=by
     obtain⟨_,_,_,hf⟩:=f1;rcases hf with⟨fa,_⟩ |⟨hw,_⟩
     ·rcases fa with⟨_,fa⟩ |fa
      ·exact fa
      ·omega
     ·omega
    obtain⟨x,hx,h1,h2⟩:=V.vE _ q1 hkd;rw[xS V hx h1 h2,hx,V.num _ q2,V.num _ q3];simp only[dx,dG];simp
   ·have g1:=rA V f1 neg;have g2:=rA V f2 neg;generalize values fd (sg neg 5) (bG ks 0) (bG ks 1)=A at *
    generalize values fd (sg neg 3) (bG ks 0) (bG ks 2)=B at *
    generalize dx 5 (vl (bG ks 0)) (vl (bG ks 1))=x at *
    generalize dx 3 (vl (bG ks 0)) (vl (bG ks 2))=y at *
    rw[qp neg 2 (tr:=(if x then 1 else 0)+(if y then 1 else 0)) (by
     rw[fP,fP,g1,g2];cases neg<;>cases x<;>cases y<;>simp[cnt]) (by cases x<;>cases y<;>simp)]
    cases x<;>cases y<;>simp
  ·have e8:n.k=8:=by omega
   rw[if_neg e0,if_neg e1,if_neg e2,if_neg e6,if_neg e7,if_pos e8,if_neg e0,if_neg e1,if_neg e2,if_neg e3,if_neg e4,if_neg e5,if_neg e6,if_neg e7];have hc:=KE (vl:=vl) (λt:Tr=>values fd (sg neg 0) (bG ks 0) t.n) (λt:Tr=>dx 0 (vl (bG ks 0)) (vl t.n)) neg (l:=ks.drop 1) λt ht=>rA V (c8 e8 t ht) neg
   rw[qp neg 1 (by rw[ad6];exact hc) (by rw[ad6];exact afx _ _)]
   congr 1
   rw[aem,afe];simp only[decide_eq_true_eq];constructor
   ·intro h;have:0<(List.filter (λt:Tr=>dx 0 (vl (bG ks 0)) (vl t.n)) (ks.drop 1)).length:=by omega
    obtain⟨t,ht⟩:=List.exists_mem_of_length_pos this;exact⟨t,(afm.1 ht).1,(afm.1 ht).2⟩
   ·rintro⟨t,h1,h2⟩;have:0<(List.filter (λt:Tr=>dx 0 (vl (bG ks 0)) (vl t.n)) (ks.drop 1)).length:=List.length_pos_of_mem (afm.2 ⟨h1,h2⟩);omega
theorem og(V:lU fd vl):∀ (ts:List Tr) (neg:Bool),Tys fd ts->cnt (bD vl) (gh fd neg ts)=if neg then ts.length-cT vl ts else cT vl ts
 | [],neg,_=>by cases neg<;>rfl
 |t :: ts,neg,ty=>by
  have h1:=mF V t neg ty.1;have h2:=og V ts neg ty.2;have hle:=wW vl ts;simp only[gh,cT,ad1];rw[fP,h1,h2];cases neg<;>cases truth vl t<;>simp<;>omega
end
end
end Go.Ab.Pol
