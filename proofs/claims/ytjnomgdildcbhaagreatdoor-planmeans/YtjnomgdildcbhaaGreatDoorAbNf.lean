/-
  A policy that fits has a tree of the right types.
-/
import Derived.Test.YtjnomgdildcbhaaGreatDoorAbOrd
set_option linter.unusedVariables false
set_option linter.unusedSimpArgs false
namespace Go.Ab.Pol
theorem qY{f:Nd->Option VT}{i:Nat}{n:Nd}{ks:List Tr}(hk:n.k=6∨n.k=7∨n.k=8)(h:(cZ f (.nd i n ks)).2=0):∃ vs,ks.map (λt=>f t.n)=vs.map some∧dI n vs=0:=by
 simp only[cZ]at h;rw[if_pos hk]at h;cases e:iA f ks with
 |inl k=>rw[e]at h;simp at h
 |inr vs=>
  rw[e]at h;simp only at h;by_cases c:dI n vs=0
  ·exact⟨vs,iX e,c⟩
  ·rw[if_neg c]at h;exact absurd h c
theorem Lt{α:Type}{l:List α}(h:l.length=2):∃ a b,l=[a,b]:=by
 match l,h with
 | [a,b],_=>exact⟨a,b,rfl⟩
theorem Lu{α:Type}{l:List α}(h:l.length=3):∃ a b c,l=[a,b,c]:=by
 match l,h with
 | [a,b,c],_=>exact⟨a,b,c,rfl⟩
mutual
theorem Jg{ns:List Nd}{us:List Us}{l:List Sc}:∀ t:Tr,IsT ns t->WF t true->(∀ s∈t.subs,(cZ (cg us l) s).2=0)->Ty (ak us l) t
 |.nd i n ks,⟨h1,h2,h3⟩,⟨w1,w2⟩,hc=>by
  obtain⟨k0,k12,k8,kH,_,hlo,hhi⟩:=eJ w1;have hlen:n.kids.l.length=ks.length:=by rw[h2];simp
  rw[hlen]at kH;have k8:n.k<=8:=by simpa using k8
  have kv:6<=n.k->∀ q∈ks,q.n.k=9∨q.n.k=10∨q.n.k=11:=λh q hq=>by
   have:decide (n.k<=5)=false:=by simp;omega
   rw[this]at w2;exact Hz (DN w2 q hq)
  have two:6<=n.k->∀ how,How how->∀ a∈ks,∀ b∈ks,∀ x y,cg us l a.n=some x->cg us l b.n=some y->aT x y=0->((how=0∨how=1)∨(isNum x=true∧isNum y=true))->Fits (ak us l) how a.n b.n:=
   λh how hh a ha b hb x y hx hy hag hn=>DM hh (kv h a ha) (kv h b hb) hx hy hag hn
  have jx:=hc (.nd i n ks) (by simp[Tr.subs]);refine⟨k0,k8,λh=>?_,λh=>?_,λh6=>?_,λh7=>?_,λh8=>?_⟩
  ·simpa[cQ,h]using kH
  ·have e:decide (n.k<=5)=true:=by simp[h]
   rw[e]at w2;exact Pj ks h3 w2 λs hs=>hc s (by simp[Tr.subs,hs])
  ·obtain⟨a,b,rfl⟩:=Lt (l:=ks) (by simpa[cQ,h6]using kH);obtain⟨vs,e3,e2⟩:=qY (.inl h6) jx;obtain⟨x,y,rfl⟩:=Lt (l:=vs) (by have:=congrArg List.length e3;simpa using this.symm);simp only[Io,aei,aen,and_true]at e3;have hh:How n.num:=by simp[EZ,xe,h6]at hlo hhi;unfold How;omega
   unfold dI at e2;rw[if_pos h6]at e2;split at e2
   ·simp at e2
   ·rename_i hn;refine two (by omega) n.num hh a (by simp) b (by simp) x y e3.1 e3.2 (gP e2 y (by simp)) ?_;by_cases q0:n.num=0
    ·exact .inl (.inl q0)
    by_cases q1:n.num=1
    ·exact .inl (.inr q1)
    ·right;simp[q0,q1]at hn;exact hn
  ·obtain⟨a,b,c,rfl⟩:=Lu (l:=ks) (by simpa[cQ,h7]using kH);obtain⟨vs,e3,e2⟩:=qY (.inr (.inl h7)) jx;obtain⟨x,y,z,rfl⟩:=Lu (l:=vs) (by have:=congrArg List.length e3;simpa using this.symm);simp only[Io,aei,aen,and_true]at e3;unfold dI at e2;rw[if_neg (by omega),if_pos h7]at e2;have iq:isNum x=true∧isNum y=true∧isNum z=true:=by
    split at e2
    ·simp at e2
    ·rename_i hc;simpa using hc
   have hnn:∀ q r,isNum q=true->isNum r=true->aT q r=0:=λq r hq hr=>by
    cases q<;>cases r<;>simp[isNum]at hq hr<;>rfl
   exact⟨two (by omega) 5 (by simp[How]) a (by simp) b (by simp) x y e3.1 e3.2.1 (hnn _ _ iq.1 iq.2.1) (.inr ⟨iq.1,iq.2.1⟩),
    two (by omega) 3 (by simp[How]) a (by simp) c (by simp) x z e3.1 e3.2.2 (hnn _ _ iq.1 iq.2.2) (.inr ⟨iq.1,iq.2.2⟩)⟩
  ·obtain⟨vs,e3,e2⟩:=qY (.inr (.inr h8)) jx;cases ks with
   |nil=>simp[cQ,h8]at kH
   |cons a r=>
    cases vs with
    |nil=>simp at e3
    |cons x ys=>
     simp only[Io,aen]at e3;unfold dI at e2;rw[if_neg (by omega),if_neg (by omega)]at e2;intro b hb;have hb:b∈r:=hb;have hm:cg us l b.n∈r.map (λt=>cg us l t.n):=aeg.2 ⟨b,hb,rfl⟩;rw[e3.2]at hm;obtain⟨y,hy,ey⟩:=aeg.1 hm;exact two (by omega) 0 (by simp[How]) a (by simp) b (by simp[hb]) x y e3.1 ey.symm (gP e2 y hy) (.inl (.inl rfl))
theorem Pj{ns:List Nd}{us:List Us}{l:List Sc}:∀ ts:List Tr,kY ns ts->WFs ts true->(∀ s∈Tr.br ts,(cZ (cg us l) s).2=0)->Tys (ak us l) ts
 | [],_,_,_=>trivial
 |t :: ts,h,w,hc=>⟨Jg t h.1 w.1 λs hs=>hc s (by simp[Tr.br,hs]),Pj ts h.2 w.2 λs hs=>hc s (by simp[Tr.br,hs])⟩
end
end Go.Ab.Pol
/-
  A condition in normal form as nodes in NH, and as a tree.
-/
namespace Go.Ab.Pol
def aP(v:Nd):Nd:=⟨v.k,v.num,v.nm,v.attr,⟨true,[]⟩,0⟩
def upI(b n:Nat):List Int:=(List.range n).map λj=>((b+j:Nat):Int)
mutual
def Cd.size:Cd->Nat
 |.atom _ _ vs=>vs.length+1
 |.gate _ ks=>Cd.sizes ks+1
def Cd.sizes:List Cd->Nat
 | []=>0
 |c :: cs=>c.size+Cd.sizes cs
end
def starts:Nat->List Cd->List Int
 |_,[]=>[]
 |b,c :: cs=>(b:Int) :: starts (b+c.size) cs
def bC(b:Nat)(k num:Int)(n:Nat):Nd:=⟨k,num,[],[],⟨true,upI (b+1) n⟩,0⟩
def cV(b:Nat)(need:Int)(ks:List Cd):Nd:=⟨5,need,[],[],⟨true,starts (b+1) ks⟩,0⟩
mutual
def flat:Nat->Cd->List Nd
 |b,.atom k num vs=>bC b k num vs.length :: vs.map aP
 |b,.gate need ks=>cV b need ks :: fJ (b+1) ks
def fJ:Nat->List Cd->List Nd
 |_,[]=>[]
 |b,c :: cs=>flat b c++fJ (b+c.size) cs
end
mutual
theorem kj:∀ (b:Nat) (c:Cd),(flat b c).length=c.size
 |b,.atom k num vs=>by simp[flat,Cd.size]
 |b,.gate need ks=>by simp[flat,Cd.size,wB (b+1) ks]
theorem wB:∀ (b:Nat) (cs:List Cd),(fJ b cs).length=Cd.sizes cs
 |_,[]=>rfl
 |b,c :: cs=>by simp[fJ,Cd.sizes,kj b c,wB (b+c.size) cs]
end
def cF:Nat->List Nd->List Tr
 |_,[]=>[]
 |b,v :: vs=>.nd b (aP v) [] :: cF (b+1) vs
mutual
def aV:Nat->Cd->Tr
 |b,.atom k num vs=>.nd b (bC b k num vs.length) (cF (b+1) vs)
 |b,.gate need ks=>.nd b (cV b need ks) (cX (b+1) ks)
def cX:Nat->List Cd->List Tr
 |_,[]=>[]
 |b,c :: cs=>aV b c :: cX (b+c.size) cs
end
theorem DV(b:Nat)(c:Cd):(aV b c).i=b:=by cases c<;>rfl
theorem wS:∀ (cs:List Cd) (b:Nat),(cX b cs).length=cs.length
 | [],_=>rfl
 |c :: cs,b=>by simp[cX,wS cs]
theorem GM:∀ (vs:List Nd) (b:Nat),(cF b vs).map (λt=>(t.i:Int))=upI b vs.length
 | [],b=>rfl
 |v :: vs,b=>by
  rw[cF,Io,GM vs (b+1),ad1];simp only[upI,List.range_succ_eq_map,Io,aeR,Tr.i]
  congr 1
  apply List.map_congr_left;intro j _;simp only[Function.comp];omega
theorem Kt:∀ (cs:List Cd) (b:Nat),(cX b cs).map (λt=>(t.i:Int))=starts b cs
 | [],b=>rfl
 |c :: cs,b=>by rw[cX,Io,Kt cs,starts,DV]
def At(ns:List Nd)(b:Nat)(l:List Nd):Prop:=∀ j n,l[j]?=some n->ns[b+j]?=some n
theorem nW{ns:List Nd}{b:Nat}{n:Nd}{l:List Nd}(h:At ns b (n :: l)):ns[b]?=some n∧At ns (b+1) l:=by
 refine⟨by simpa using h 0 n rfl,λj m hj=>?_⟩;have:=h (j+1) m (by simpa using hj);rwa[show b+(j+1)=b+1+j by omega]at this
theorem Ir{ns:List Nd}{b:Nat}{l m:List Nd}(h:At ns b (l++m)):At ns b l∧At ns (b+l.length) m:=by
 refine⟨λj n hj=>h j n ?_,λj n hj=>?_⟩
 ·rw[aej (adW.1 hj).1];exact hj
 ·have:=h (l.length+j) n (by rw[aez (by omega)];simpa using hj);rwa[<-Nat.add_assoc]at this
theorem BH{ns:List Nd}:∀ (vs:List Nd) (b:Nat),At ns b (vs.map aP)->kY ns (cF b vs)
 | [],_,_=>trivial
 |v :: vs,b,h=>by
  obtain⟨h1,h2⟩:=nW h;exact⟨⟨h1,rfl,trivial⟩,BH vs (b+1) h2⟩
mutual
theorem vC{ns:List Nd}:∀ (c:Cd) (b:Nat),At ns b (flat b c)->IsT ns (aV b c)
 |.atom k num vs,b,h=>by
  obtain⟨h1,h2⟩:=nW h;exact⟨h1,(GM vs (b+1)).symm,BH vs (b+1) h2⟩
 |.gate need ks,b,h=>by
  obtain⟨h1,h2⟩:=nW h;exact⟨h1,(Kt ks (b+1)).symm,BI ks (b+1) h2⟩
theorem BI{ns:List Nd}:∀ (cs:List Cd) (b:Nat),At ns b (fJ b cs)->kY ns (cX b cs)
 | [],_,_=>trivial
 |c :: cs,b,h=>by
  obtain⟨h1,h2⟩:=Ir h;rw[kj]at h2;exact⟨vC c b h1,BI cs (b+c.size) h2⟩
end
theorem DU(l:List Nd):At l 0 l:=λj n h=>by simpa using h
mutual
theorem GN{ns:List Nd}:∀ (t s:Tr),IsT ns t->IsT ns s->t.i=s.i->t=s
 |.nd i n ks,.nd j m js,⟨a1,a2,a3⟩,⟨b1,b2,b3⟩,e=>by
  simp only[Tr.i]at e;subst e;rw[a1]at b1;injection b1 with b1
  subst b1;rw[Dl ks js a3 b3 (by rw[<-a2,<-b2])]
theorem Dl{ns:List Nd}:∀ (ts ss:List Tr),kY ns ts->kY ns ss->ts.map (λt=>(t.i:Int))=ss.map (λt=>(t.i:Int))->ts=ss
 | [],[],_,_,_=>rfl
 | [],_ :: _,_,_,e=>by simp at e
 |_ :: _,[],_,_,e=>by simp at e
 |t :: ts,s :: ss,h,k,e=>by
  simp only[Io,aen]at e;rw[GN t s h.1 k.1 (by omega),Dl ts ss h.2 k.2 e.2]
end
section
variable{vl:Nd->Vl}
def ady:Cd->Prop
 |.atom k num vs=>(k=0∧vs=[])∨(k=1∧vs=[])∨(k=6∧vs.length=2)∨(k=7∧vs.length=3)
 |.gate _ _=>True
mutual
def Ku:Cd->Prop
 |.atom k num vs=>ady (.atom k num vs)
 |.gate _ ks=>Kv ks
def Kv:List Cd->Prop
 | []=>True
 |c :: cs=>Ku c∧Kv cs
end
mutual
theorem Dm(hv:∀ v,vl (aP v)=vl v):∀ (c:Cd) (b:Nat),Ku c->truth vl (aV b c)=bD vl c
 |.atom k num vs,b,h=>by
  rcases h with⟨rfl,rfl⟩ |⟨rfl,rfl⟩ |⟨rfl,h⟩ |⟨rfl,h⟩
  ·simp[aV,truth,bD,bC]
  ·simp[aV,truth,bD,bC]
  ·obtain⟨x,y,rfl⟩:=Lt h;simp[aV,truth,bD,bC,atC,cF,bG,Tr.n,hv]
  ·obtain⟨x,y,z,rfl⟩:=Lu h;simp[aV,truth,bD,bC,atC,cF,bG,Tr.n,hv]
 |.gate need ks,b,h=>by
  have:=BJ hv ks (b+1) h;simp[aV,truth,bD,cV,this]
theorem BJ(hv:∀ v,vl (aP v)=vl v):∀ (cs:List Cd) (b:Nat),Kv cs->cT vl (cX b cs)=uT vl cs
 | [],_,_=>rfl
 |c :: cs,b,h=>by
  simp only[cX,cT,uT,Dm hv c b h.1,BJ hv cs _ h.2]
end
end
end Go.Ab.Pol
/-
  We forms: what they look like, that their values fit, and that they are their own normal forms.
-/
set_option linter.unusedSectionVars false
namespace Go.Ab.Pol
mutual
def cG:Cd->Cd
 |.atom k num vs=>.atom k num (vs.map aP)
 |.gate need ks=>.gate need (iM ks)
def iM:List Cd->List Cd
 | []=>[]
 |c :: cs=>cG c :: iM cs
end
theorem oa:∀ l:List Cd,iM l=l.map cG
 | []=>rfl
 |c :: l=>by simp[iM,oa l]
mutual
theorem jT:∀ c:Cd,(cG c).size=c.size
 |.atom k num vs=>by simp[cG,Cd.size]
 |.gate need ks=>by simp[cG,Cd.size,BK ks]
theorem BK:∀ cs:List Cd,Cd.sizes (iM cs)=Cd.sizes cs
 | []=>rfl
 |c :: cs=>by simp[iM,Cd.sizes,jT c,BK cs]
end
theorem xO:∀ (cs:List Cd) (b:Nat),starts b (iM cs)=starts b cs
 | [],_=>rfl
 |c :: cs,b=>by simp[iM,starts,jT c,xO cs]
theorem Mg(n:Int):aP (bw n)=bw n:=rfl
mutual
theorem C3:∀ (c:Cd) (b:Nat),flat b (cG c)=flat b c
 |.atom k num vs,b=>by
  simp only[cG,flat,ad6,aeR]
  congr 1
 |.gate need ks,b=>by simp[cG,flat,BL ks,cV,xO]
theorem BL:∀ (cs:List Cd) (b:Nat),fJ b (iM cs)=fJ b cs
 | [],_=>rfl
 |c :: cs,b=>by simp[iM,fJ,C3 c,BL cs,jT]
end
theorem GP:∀ t:Tr,t∈t.subs:=λt=>by cases t;simp[Tr.subs]
theorem uU{t s:Tr}:∀ {ts:List Tr},t∈ts->s∈t.subs->s∈Tr.br ts
 | [],h,_=>by cases h
 |x :: ts,h,hs=>by
  simp only[Tr.br,aep];rcases adY.1 h with rfl |h
  ·exact .inl hs
  ·exact .inr (uU h hs)
def Unm(need:Int)(n:Nat):Cd->Prop
 |.atom _ _ _=>True
 |.gate m ks=>¬ (need=(n:Int)∧m=(ks.length:Int))∧¬ (need=1∧m=1)
def Cst(c:Cd):Prop:=∃ b,c=cB b
section
variable(us:List Us)(l:List Sc)(Q:Nd->Prop)
def Wt(how:Int)(a b:Nd):Prop:=How how∧(a.k=9∨a.k=10∨a.k=11)∧(b.k=9∨b.k=10∨b.k=11) ∧
 ∃ x y,cg us l a=some x∧cg us l b=some y∧aT x y=0∧((how=0∨how=1)∨(isNum x=true∧isNum y=true))
def AtN(k num:Int)(vs:List Nd):Prop:=
  (∀ v∈vs, v.k=9->Q v) ∧
  ((k=6∧∃ a b, vs=[a, b]∧Wt us l num a b∧values (ak us l) num a b=dL num a b) ∨
   (k=7∧num=0∧∃ x lo hi, vs=[x, bw lo, bw hi]∧x.k=9∧cg us l x=some .num∧within (ak us l) x lo hi=.atom 7 0 [x, bw lo, bw hi]))
mutual
def NF:Cd->Prop
 |.atom k num vs=>AtN us l Q k num vs
 |.gate need ks=>2<=ks.length∧1<=need∧need<=(ks.length:Int)∧NFs need ks.length ks
def NFs(need:Int)(n:Nat):List Cd->Prop
 | []=>True
 |c :: cs=>NF c∧Unm need n c∧NFs need n cs
end
mutual
def Tw:Tr->Prop
 |.nd _ n ks=>0<=n.k∧n.k<=8∧(n.k=2->ks.length=1)∧(n.k<=5->Tws ks) ∧
  (n.k=6->Wt us l n.num (bG ks 0) (bG ks 1)) ∧
  (n.k=7->Wt us l 5 (bG ks 0) (bG ks 1)∧Wt us l 3 (bG ks 0) (bG ks 2)) ∧
  (n.k=8->∀ t∈ks.drop 1,Wt us l 0 (bG ks 0) t.n)
def Tws:List Tr->Prop
 | []=>True
 |t :: ts=>Tw t∧Tws ts
end
end
section
variable{us:List Us}{l:List Sc}{Q:Nd->Prop}
theorem cu{need:Int}{n:Nat}:∀ {cs:List Cd},NFs us l Q need n cs↔∀ c∈cs,NF us l Q c∧Unm need n c
 | []=>by simp[NFs]
 |c :: cs=>by simp[NFs,cu (cs:=cs),and_assoc]
theorem IJ{x y:VT}(h:aT x y=0):aT y x=0:=by
 cases x<;>cases y<;>simp only[aT]at h ⊢<;>first |exact h |skip
 rename_i a b;split at h
 ·rename_i e;rw[if_pos e.symm]
 ·exact absurd h (by decide)
theorem Wt.fits{how:Int}{a b:Nd}(h:Wt us l how a b):Fits (ak us l) how a b:=by
 obtain⟨h1,h2,h3,x,y,hx,hy,ha,hn⟩:=h;exact DM h1 h2 h3 hx hy ha hn
theorem Wt.dm{how:Int}{a b:Nd}(h:Wt us l how a b):Wt us l (dm how) b a:=by
 obtain⟨h1,h2,h3,x,y,hx,hy,ha,hn⟩:=h;refine⟨nR h1,h3,h2,y,x,hy,hx,IJ ha,?_⟩;rcases hn with (rfl |rfl) |⟨e1,e2⟩
 ·exact .inl (.inl rfl)
 ·exact .inl (.inr rfl)
 ·exact .inr ⟨e2,e1⟩
theorem Wt.abD{how:Int}{a b:Nd}(h:Wt us l how a b):Wt us l (complement how) a b:=by
 obtain⟨h1,h2,h3,x,y,hx,hy,ha,hn⟩:=h;refine⟨vU h1,h2,h3,x,y,hx,hy,ha,?_⟩;rcases hn with (rfl |rfl) |⟨e1,e2⟩
 ·exact .inl (.inr rfl)
 ·exact .inl (.inl rfl)
 ·exact .inr ⟨e1,e2⟩
theorem Wt.sg{how:Int}{a b:Nd}(h:Wt us l how a b)(neg:Bool):Wt us l (sg neg how) a b:=by
 cases neg
 ·exact h
 ·exact h.abD
theorem SS(n:Int):cg us l (bw n)=some .num:=rfl
theorem Pk{how:Int}(hh:How how){x:Nd}(hk:x.k=9)(hx:cg us l x=some .num)(n:Int):Wt us l how x (bw n):=
 ⟨hh,.inl hk,.inr (.inl rfl),.num,.num,hx,rfl,rfl,.inr ⟨rfl,rfl⟩⟩
theorem AG(n:Int):¬ (bw n).k=9:=by simp[bw]
theorem Kw(n:Int):(bw n).k=10:=rfl
theorem jV{x:Nd}(hk:x.k=9)(hx:cg us l x=some .num)(hQ:Q x)(lo hi:Int):Cst (within (ak us l) x lo hi)∨NF us l Q (within (ak us l) x lo hi):=by
 generalize hfd:ak us l=fd;by_cases c1:min hi (fd x).mx<max lo (fd x).mn
 ·exact .inl ⟨false,by unfold within;rw[if_pos c1]⟩
 by_cases c2:max lo (fd x).mn=(fd x).mn∧min hi (fd x).mx=(fd x).mx
 ·exact .inl ⟨true,by unfold within;rw[if_neg c1,if_pos c2]⟩
 right;by_cases c3:max lo (fd x).mn=min hi (fd x).mx
 ·have e:within fd x lo hi=dL 0 x (bw (max lo (fd x).mn)):=by unfold within;rw[if_neg c1,if_neg c2,if_pos c3]
  rw[e];refine⟨λv hv h9=>?_,.inl ⟨rfl,x,bw (max lo (fd x).mn),rfl,Pk (.inl rfl) hk hx _,?_⟩⟩
  ·simp only[adY,aeA,or_false]at hv;rcases hv with rfl |rfl
   ·exact hQ
   ·exact absurd h9 (AG _)
  ·rw[hfd];have e2:values fd 0 x (bw (max lo (fd x).mn))=within fd x (max lo (fd x).mn) (max lo (fd x).mn):=by
    unfold values;rw[if_neg (by simp[hk])];unfold bE;rw[if_neg (by omega),if_neg (by omega),if_pos (Kw _)];simp[bounded,bw]
   rw[e2];unfold within;rw[if_neg (by omega),if_neg (by omega),if_pos (by omega)]
   congr 2
   omega
 ·have e:within fd x lo hi=.atom 7 0 [x,bw (max lo (fd x).mn),bw (min hi (fd x).mx)]:=by unfold within;rw[if_neg c1,if_neg c2,if_neg c3]
  rw[e];refine⟨λv hv h9=>?_,.inr ⟨rfl,rfl,x,_,_,rfl,hk,hx,?_⟩⟩
  ·simp only[adY,aeA,or_false]at hv;rcases hv with rfl |rfl |rfl
   ·exact hQ
   ·exact absurd h9 (AG _)
   ·exact absurd h9 (AG _)
  ·rw[hfd];have e1:max (max lo (fd x).mn) (fd x).mn=max lo (fd x).mn:=by omega
   have e2:min (min hi (fd x).mx) (fd x).mx=min hi (fd x).mx:=by omega
   unfold within;rw[e1,e2,if_neg c1,if_neg c2,if_neg c3]
theorem IK{how:Int}(hh:How how){x:Nd}(hk:x.k=9)(hx:cg us l x=some .num)(hQ:Q x)(c:Int):Cst (bounded (ak us l) how x c)∨NF us l Q (bounded (ak us l) how x c):=by
 by_cases h1:how=1
 ·subst h1;by_cases c1:c<(ak us l x).mn∨(ak us l x).mx<c
  ·exact .inl ⟨true,by simp[bounded,c1]⟩
  by_cases c2:(ak us l x).mn=(ak us l x).mx
  ·exact .inl ⟨false,by simp only[bounded];rw[if_neg (by decide),if_neg (by decide),if_neg (by decide),if_neg (by decide),if_neg (by decide),if_neg c1,if_pos c2]⟩
  have e:bounded (ak us l) 1 x c=dL 1 x (bw c):=by
   simp only[bounded];rw[if_neg (by decide),if_neg (by decide),if_neg (by decide),if_neg (by decide),if_neg (by decide),if_neg c1,if_neg c2]
  right;rw[e];refine⟨λv hv h9=>?_,.inl ⟨rfl,x,bw c,rfl,Pk (.inr (.inl rfl)) hk hx _,?_⟩⟩
  ·simp only[adY,aeA,or_false]at hv;rcases hv with rfl |rfl
   ·exact hQ
   ·exact absurd h9 (AG _)
  ·rw[<-e];unfold values;rw[if_neg (by simp[hk])];unfold bE;rw[if_neg (by omega),if_neg (by omega),if_pos (Kw _)];rfl
 ·unfold bounded;rcases hh with rfl |rfl |rfl |rfl |rfl |rfl
  ·exact jV hk hx hQ _ _
  ·exact absurd rfl h1
  ·exact jV hk hx hQ _ _
  ·exact jV hk hx hQ _ _
  ·exact jV hk hx hQ _ _
  ·exact jV hk hx hQ _ _
theorem oc(fd:Nd->Fd)(how:Int)(a b:Nd):Cst (bH fd how a b)∨bH fd how a b=dL how a b:=by
 unfold bH
 repeat' split
 all_goals first |exact .inr rfl |exact .inl ⟨_,rfl⟩
theorem mM{a:Nd}(hk:a.k=9)(h:cg us l a=some .num):(ak us l a).kind=0:=by
 rcases zM (.inl hk) h with h |h
 ·exact h.2
 ·omega
theorem BM{a:Nd}{x:VT}(hk:a.k=9)(h:cg us l a=some x)(h0:(ak us l a).kind=0):x=.num:=by
 cases x with
 |num=>rfl
 |wd w=>have:=(zN h).1;omega
 |fw ws=>exact absurd h0 (zO (.inl hk) h).2.1
theorem Ky{how:Int}(h3:how=0∨how=1∨how=2∨how=3){a b:Nd}(ha:a.k=9)(hb:b.k=9)(ta:cg us l a=some .num)(tb:cg us l b=some .num)(hne:¬ (a.nm=b.nm∧a.attr=b.attr))(qa:Q a)(qb:Q b) :
  Cst (bH (ak us l) how a b)∨NF us l Q (bH (ak us l) how a b):=by
 rcases oc (ak us l) how a b with h |e
 ·exact .inl h
 right;rw[e];have hh:How how:=by unfold How;omega
 refine⟨λv hv h9=>?_,.inl ⟨rfl,a,b,rfl,⟨hh,.inl ha,.inl hb,.num,.num,ta,tb,rfl,.inr ⟨rfl,rfl⟩⟩,?_⟩⟩
 ·simp only[adY,aeA,or_false]at hv;rcases hv with rfl |rfl
  ·exact qa
  ·exact qb
 ·rw[<-e];unfold values;rw[if_neg (by simp[ha])];unfold bE;rw[if_neg (by omega),if_neg (by omega),if_neg (by omega),if_neg (λq=>hne q.2),if_pos (mM ha ta)];unfold numbers;rw[if_neg (by omega)]
theorem IL{how:Int}(hh:How how){a b:Nd}(ha:a.k=9)(hb:b.k=9)(ta:cg us l a=some .num)(tb:cg us l b=some .num)(hne:¬ (a.nm=b.nm∧a.attr=b.attr))(qa:Q a)(qb:Q b) :
  Cst (numbers (ak us l) how a b)∨NF us l Q (numbers (ak us l) how a b):=by
 unfold numbers;split
 ·rename_i c;refine Ky ?_ hb ha tb ta (λq=>hne ⟨q.1.symm,q.2.symm⟩) qb qa;rcases c with rfl |rfl<;>simp[dm]
 ·rename_i c;refine Ky ?_ ha hb ta tb hne qa qb;unfold How at hh;omega
theorem BN{how:Int}{a b:Nd}(w:Wt us l how a b)(hs:¬ (a.k≠9∧b.k=9))(qa:a.k=9->Q a)(qb:b.k=9->Q b) :
  Cst (bE (ak us l) how a b)∨NF us l Q (bE (ak us l) how a b):=by
 have w0:=w;obtain⟨hh,ka,kb,x,y,hx,hy,hag,hn⟩:=w;by_cases c1:a.k=10
 ·exact .inl ⟨_,by unfold bE;rw[if_pos c1]⟩
 by_cases c2:a.k=11
 ·exact .inl ⟨_,by unfold bE;rw[if_neg c1,if_pos c2]⟩
 have ha:a.k=9:=by omega
 by_cases c3:b.k=10
 ·have e:bE (ak us l) how a b=bounded (ak us l) how a b.num:=by unfold bE;rw[if_neg c1,if_neg c2,if_pos c3]
  rw[e];refine IK hh ha ?_ (qa ha) _;have:cg us l b=some .num:=by unfold cg;rw[if_pos c3]
  rw[this]at hy;injection hy with hy
  subst hy;cases x with
  |num=>exact hx
  |wd w=>exact absurd hag (by simp[aT])
  |fw w=>exact absurd hag (by simp[aT])
 by_cases c4:b.k=9∧a.nm=b.nm∧a.attr=b.attr
 ·exact .inl ⟨_,by unfold bE;rw[if_neg c1,if_neg c2,if_neg c3,if_pos c4]⟩
 by_cases c5:(ak us l a).kind=0
 ·have e:bE (ak us l) how a b=numbers (ak us l) how a b:=by unfold bE;rw[if_neg c1,if_neg c2,if_neg c3,if_neg c4,if_pos c5]
  rw[e];have ex:=BM ha hx c5;subst ex;have ey:y=.num:=by
   cases y with
   |num=>rfl
   |wd w=>exact absurd hag (by simp[aT])
   |fw w=>exact absurd hag (by simp[aT])
  subst ey;have hb:b.k=9:=by
   rcases zM kb hy with h |h
   ·exact h.1
   ·exact absurd h c3
  exact IL hh ha hb hx hy (λq=>c4 ⟨hb,q⟩) (qa ha) (qb hb)
 by_cases c6:(ak us l a).words.l.length=1
 ·exact .inl ⟨_,by unfold bE;rw[if_neg c1,if_neg c2,if_neg c3,if_neg c4,if_neg c5,if_pos c6]⟩
 have e:bE (ak us l) how a b=dL how a b:=by unfold bE;rw[if_neg c1,if_neg c2,if_neg c3,if_neg c4,if_neg c5,if_neg c6]
 right;rw[e];refine⟨λv hv h9=>?_,.inl ⟨rfl,a,b,rfl,w0,?_⟩⟩
 ·simp only[adY,aeA,or_false]at hv;rcases hv with rfl |rfl
  ·exact qa h9
  ·exact qb h9
 ·rw[<-e];unfold values;rw[if_neg (by simp[ha])]
theorem mI{how:Int}{a b:Nd}(w:Wt us l how a b)(qa:a.k=9->Q a)(qb:b.k=9->Q b):Cst (values (ak us l) how a b)∨NF us l Q (values (ak us l) how a b):=by
 unfold values;split
 ·exact BN w.dm (by omega) qb qa
 ·rename_i c;exact BN w c qa qb
theorem uw{cs:List Cd}{c:Cd}(h:c∈rest cs):c∈cs∧¬ Cst c:=by
 unfold rest at h;obtain⟨h1,h2⟩:=afm.1 h;refine⟨h1,?_⟩;rintro⟨b,rfl⟩;cases b<;>simp[cB,Cd.isT,Cd.isF]at h2
theorem wT{w:Bool}{k:Int}:∀ {cs:List Cd},(∀ c∈cs,NF us l Q c)->cs.length<=(aY w k cs).length
 | [],_=>adX _
 |c :: cs,h=>by
  have ih:=wT (w:=w) (k:=k) (cs:=cs) λx hx=>h x (by simp[hx])
  have h1:1<=(cE w k c).length:=by
   cases c with
   |atom k' n vs=>simp[cE]
   |gate n ks=>
    have:=(h (.gate n ks) (by simp)).1;simp only[cE];split
    ·omega
    ·simp
  simp only[aY,ad9,ad1];omega
theorem qZ{w:Bool}{k:Int}{c:Cd}:∀ {cs:List Cd},c∈aY w k cs->∃ d∈cs,c∈cE w k d
 | [],h=>by simp[aY]at h
 |d :: cs,h=>by
  simp only[aY,aep]at h;rcases h with h |h
  ·exact⟨d,by simp,h⟩
  ·obtain⟨e,he,h⟩:=qZ h;exact⟨e,by simp[he],h⟩
theorem Wf{k:Int}{cs:List Cd}(h:∀ c∈cs,Cst c∨NF us l Q c):Cst (thr k cs)∨NF us l Q (thr k cs):=by
 have hr:∀ c∈rest cs,NF us l Q c:=λc hc=>(h c (uw hc).1).resolve_left (uw hc).2
 unfold thr;split
 ·exact .inl ⟨_,rfl⟩
 rename_i c1;split
 ·exact .inl ⟨_,rfl⟩
 rename_i c2;generalize k-dD cs=k' at c1 c2;generalize rest cs=r at hr c2;right;split
 ·exact hr _ (by simp)
 rename_i hne;have h2:2<=r.length:=by
  match r,hne,c1,c2 with
  | [],_,_,c2=>simp only[adZ]at c2;omega
  | [c],hne,_,_=>exact absurd rfl (hne c)
  |a :: b :: r,_,_,_=>simp
 split
 ·rename_i c3;have hl:=wT (w:=true) (k:=k') hr;refine⟨by omega,by omega,afk _,cu.2 λc hc=>?_⟩;obtain⟨d,hd,hc⟩:=qZ hc;have nd:=hr d hd;cases d with
  |atom a n vs=>
   simp only[cE,aed]at hc;subst hc;exact⟨nd,trivial⟩
  |gate m ks=>
   simp only[cE]at hc;split at hc
   ·rename_i c4;have c4:m=(ks.length:Int):=by simpa using c4
    obtain⟨n1,n2⟩:=cu.1 nd.2.2.2 c hc;refine⟨n1,?_⟩;cases c with
    |atom a n vs=>trivial
    |gate m' ks'=>
     exact⟨λq=>n2.1 ⟨c4,q.2⟩,λq=>by omega⟩
   ·rename_i c4;have c4:¬ m=(ks.length:Int):=by simpa using c4
    simp only[aed]at hc;subst hc;exact⟨nd,λq=>c4 q.2,λq=>by omega⟩
 ·rename_i c3;have hl:=wT (w:=false) (k:=k') hr;refine⟨by omega,by omega,by omega,cu.2 λc hc=>?_⟩;by_cases k1:k'=1
  ·subst k1;obtain⟨d,hd,hc⟩:=qZ hc;have nd:=hr d hd;cases d with
   |atom a n vs=>
    simp only[cE,aed]at hc;subst hc;exact⟨nd,trivial⟩
   |gate m ks=>
    simp only[cE]at hc;split at hc
    ·rename_i c4;have c4:m=1:=by simpa using c4
     obtain⟨n1,n2⟩:=cu.1 nd.2.2.2 c hc;refine⟨n1,?_⟩;cases c with
     |atom a n vs=>trivial
     |gate m' ks'=>
      exact⟨λq=>by omega,λq=>n2.2 ⟨c4,q.2⟩⟩
    ·rename_i c4;have c4:¬ m=1:=by simpa using c4
     simp only[aed]at hc;subst hc;exact⟨nd,λq=>by omega,λq=>c4 q.2⟩
  ·rw[tK k1]at hc ⊢;refine⟨hr c hc,?_⟩;cases c with
   |atom a n vs=>trivial
   |gate m ks=>exact⟨λq=>c3 q.1,λq=>k1 q.1⟩
theorem BO{neg:Bool}{k:Int}{cs:List Cd}(h:∀ c∈cs,Cst c∨NF us l Q c):Cst (ofC neg k cs)∨NF us l Q (ofC neg k cs):=Wf h
theorem qj{ks:List Tr}(h:∀ t∈ks,t.n.k=9->Q t.n)(i:Nat):(bG ks i).k=9->Q (bG ks i):=by
 unfold bG;cases e:ks[i]? with
 |none=>exact λq=>absurd q (by decide)
 |some t=>exact h t (aee e)
mutual
theorem EG:∀ (t:Tr) (neg:Bool),Tw us l t->(∀ s∈t.subs,s.n.k=9->Q s.n)->Cst (norm (ak us l) neg t)∨NF us l Q (norm (ak us l) neg t)
 |.nd i n ks,neg,ty,hq=>by
  obtain⟨k0,k8,c2,c5,c6,c7,c8⟩:=ty;have hk:∀ k∈ks,k.n.k=9->Q k.n:=λk hk=>hq k (by
   simp only[Tr.subs,adY];exact .inr (uU hk (GP k)))
  have hs:∀ x∈ks,∀ s∈x.subs,s.n.k=9->Q s.n:=λx hx s hs=>hq s (by
   simp only[Tr.subs,adY];exact .inr (uU hx hs))
  unfold norm;by_cases e0:n.k=0
  ·exact .inl ⟨_,by rw[if_pos e0]⟩
  by_cases e1:n.k=1
  ·exact .inl ⟨_,by rw[if_neg e0,if_pos e1]⟩
  rw[if_neg e0,if_neg e1];by_cases e2:n.k=2
  ·rw[if_pos e2];obtain⟨t,rfl⟩:=afA.1 (c2 e2);exact EG t (!neg) (c5 (by omega)).1 (hs t (by simp))
  rw[if_neg e2];by_cases e6:n.k=6
  ·rw[if_pos e6];exact mI ((c6 e6).sg neg) (qj hk 0) (qj hk 1)
  rw[if_neg e6];by_cases e7:n.k=7
  ·rw[if_pos e7];obtain⟨w1,w2⟩:=c7 e7;by_cases q:neg=false∧(bG ks 0).k=9∧(bG ks 1).k=10∧(bG ks 2).k=10
   ·rw[if_pos q];refine jV q.2.1 ?_ (qj hk 0 q.2.1) _ _;obtain⟨_,_,_,x,y,hx,_,_,hn⟩:=w1;rcases hn with hn |hn
    ·omega
    ·cases x with
     |num=>exact hx
     |wd w=>exact absurd hn.1 (by simp[isNum])
     |fw w=>exact absurd hn.1 (by simp[isNum])
   ·rw[if_neg q];refine BO λc hc=>?_
    simp only[adY,aeA,or_false]at hc;rcases hc with rfl |rfl
    ·exact mI (w1.sg neg) (qj hk 0) (qj hk 1)
    ·exact mI (w2.sg neg) (qj hk 0) (qj hk 2)
  rw[if_neg e7];by_cases e8:n.k=8
  ·rw[if_pos e8];refine BO λc hc=>?_
   obtain⟨t,ht,rfl⟩:=aeg.1 hc;exact mI ((c8 e8 t ht).sg neg) (qj hk 0) (hk t (List.mem_of_mem_drop ht))
  rw[if_neg e8];have hn:=Av ks neg (c5 (by omega)) hs;split
  ·exact BO hn
  split
  ·exact BO hn
  ·exact BO hn
theorem Av:∀ (ts:List Tr) (neg:Bool),Tws us l ts->(∀ x∈ts,∀ s∈x.subs,s.n.k=9->Q s.n)->∀ c∈gh (ak us l) neg ts,Cst c∨NF us l Q c
 | [],neg,_,_,c,hc=>by simp[gh]at hc
 |t :: ts,neg,ty,hq,c,hc=>by
  simp only[gh,adY]at hc;rcases hc with rfl |hc
  ·exact EG t neg ty.1 (hq t (by simp))
  ·exact Av ts neg ty.2 (λx hx=>hq x (by simp[hx])) c hc
end
mutual
theorem Om{ns:List Nd}:∀ t:Tr,IsT ns t->WF t true->(∀ s∈t.subs,(cZ (cg us l) s).2=0)->Tw us l t
 |.nd i n ks,⟨h1,h2,h3⟩,⟨w1,w2⟩,hc=>by
  obtain⟨k0,k12,k8,kH,_,hlo,hhi⟩:=eJ w1;have hlen:n.kids.l.length=ks.length:=by rw[h2];simp
  rw[hlen]at kH;have k8:n.k<=8:=by simpa using k8
  have kv:6<=n.k->∀ q∈ks,q.n.k=9∨q.n.k=10∨q.n.k=11:=λh q hq=>by
   have:decide (n.k<=5)=false:=by simp;omega
   rw[this]at w2;exact Hz (DN w2 q hq)
  have two:6<=n.k->∀ how,How how->∀ a∈ks,∀ b∈ks,∀ x y,cg us l a.n=some x->cg us l b.n=some y->aT x y=0->((how=0∨how=1)∨(isNum x=true∧isNum y=true))->Wt us l how a.n b.n:=
   λh how hh a ha b hb x y hx hy hag hn=>⟨hh,kv h a ha,kv h b hb,x,y,hx,hy,hag,hn⟩
  have jx:=hc (.nd i n ks) (by simp[Tr.subs]);refine⟨k0,k8,λh=>?_,λh=>?_,λh6=>?_,λh7=>?_,λh8=>?_⟩
  ·simpa[cQ,h]using kH
  ·have e:decide (n.k<=5)=true:=by simp[h]
   rw[e]at w2;exact Pm ks h3 w2 λs hs=>hc s (by simp[Tr.subs,hs])
  ·obtain⟨a,b,rfl⟩:=Lt (l:=ks) (by simpa[cQ,h6]using kH);obtain⟨vs,e3,e2⟩:=qY (.inl h6) jx;obtain⟨x,y,rfl⟩:=Lt (l:=vs) (by have:=congrArg List.length e3;simpa using this.symm);simp only[Io,aei,aen,and_true]at e3;have hh:How n.num:=by simp[EZ,xe,h6]at hlo hhi;unfold How;omega
   unfold dI at e2;rw[if_pos h6]at e2;split at e2
   ·simp at e2
   ·rename_i hn;refine two (by omega) n.num hh a (by simp) b (by simp) x y e3.1 e3.2 (gP e2 y (by simp)) ?_;by_cases q0:n.num=0
    ·exact .inl (.inl q0)
    by_cases q1:n.num=1
    ·exact .inl (.inr q1)
    ·right;simp[q0,q1]at hn;exact hn
  ·obtain⟨a,b,c,rfl⟩:=Lu (l:=ks) (by simpa[cQ,h7]using kH);obtain⟨vs,e3,e2⟩:=qY (.inr (.inl h7)) jx;obtain⟨x,y,z,rfl⟩:=Lu (l:=vs) (by have:=congrArg List.length e3;simpa using this.symm);simp only[Io,aei,aen,and_true]at e3;unfold dI at e2;rw[if_neg (by omega),if_pos h7]at e2;have iq:isNum x=true∧isNum y=true∧isNum z=true:=by
    split at e2
    ·simp at e2
    ·rename_i hc;simpa using hc
   have hnn:∀ q r,isNum q=true->isNum r=true->aT q r=0:=λq r hq hr=>by
    cases q<;>cases r<;>simp[isNum]at hq hr<;>rfl
   exact⟨two (by omega) 5 (by simp[How]) a (by simp) b (by simp) x y e3.1 e3.2.1 (hnn _ _ iq.1 iq.2.1) (.inr ⟨iq.1,iq.2.1⟩),
    two (by omega) 3 (by simp[How]) a (by simp) c (by simp) x z e3.1 e3.2.2 (hnn _ _ iq.1 iq.2.2) (.inr ⟨iq.1,iq.2.2⟩)⟩
  ·obtain⟨vs,e3,e2⟩:=qY (.inr (.inr h8)) jx;cases ks with
   |nil=>simp[cQ,h8]at kH
   |cons a r=>
    cases vs with
    |nil=>simp at e3
    |cons x ys=>
     simp only[Io,aen]at e3;unfold dI at e2;rw[if_neg (by omega),if_neg (by omega)]at e2;intro b hb;have hb:b∈r:=hb;have hm:cg us l b.n∈r.map (λt=>cg us l t.n):=aeg.2 ⟨b,hb,rfl⟩;rw[e3.2]at hm;obtain⟨y,hy,ey⟩:=aeg.1 hm;exact two (by omega) 0 (by simp[How]) a (by simp) b (by simp[hb]) x y e3.1 ey.symm (gP e2 y hy) (.inl (.inl rfl))
theorem Pm{ns:List Nd}:∀ ts:List Tr,kY ns ts->WFs ts true->(∀ s∈Tr.br ts,(cZ (cg us l) s).2=0)->Tws us l ts
 | [],_,_,_=>trivial
 |t :: ts,h,w,hc=>⟨Om t h.1 w.1 λs hs=>hc s (by simp[Tr.br,hs]),Pm ts h.2 w.2 λs hs=>hc s (by simp[Tr.br,hs])⟩
end
theorem tL{w:Bool}{k:Int}:∀ {cs:List Cd},(∀ c∈cs,cE w k c=[c])->aY w k cs=cs
 | [],_=>rfl
 |c :: cs,h=>by rw[aY,h c (by simp),tL λx hx=>h x (by simp[hx])];rfl
theorem Pp{need:Int}{cs:List Cd}(h0:∀ c∈cs,c.isT=false∧c.isF=false)(h2:2<=cs.length)(h1:1<=need)(h3:need<=(cs.length:Int))(hu:∀ c∈cs,Unm need cs.length c):thr need cs=.gate need cs:=by
 have ht:dD cs=0:=by
  unfold dD;rw[afE,List.filter_eq_nil_iff];intro c hc;simp[(h0 c hc).1]
 have hr:rest cs=cs:=by
  unfold rest;rw[List.filter_eq_self];intro c hc;simp[h0 c hc]
 unfold thr;rw[ht,hr];simp only[ad5,Int.sub_zero];rw[if_neg (by omega),if_neg (by omega)];split
 ·simp at h2
 ·split
  ·rename_i c;have hm:aY true need cs=cs:=tL λx hx=>by
    cases x with
    |atom a n vs=>rfl
    |gate m ks=>
     have:=(hu _ hx).1;have:¬ m=(ks.length:Int):=λq=>this ⟨c,q⟩
     simp[cE,this]
   rw[hm,<-c]
  ·rename_i c;have hm:aY false need cs=cs:=tL λx hx=>by
    cases x with
    |atom a n vs=>rfl
    |gate m ks=>
     have:=(hu _ hx).2;simp only[cE,ae7,Bool.not_false,aeu,ae8];rw[if_neg];simp only[ad8,decide_eq_true_eq];exact this
   rw[hm]
theorem uV(b:Bool):cG (cB b)=cB b:=by simp[cB,cG]
section
variable{fd:Nd->Fd}(hfd:∀ n,fd (aP n)=fd n)
include hfd
theorem xP(x:Nd)(lo hi:Int):within fd (aP x) lo hi=cG (within fd x lo hi):=by
 unfold within;rw[hfd]
 repeat' split
 all_goals first |rfl |exact (uV _).symm
theorem EH(how:Int)(x:Nd)(c:Int):bounded fd how (aP x) c=cG (bounded fd how x c):=by
 unfold bounded;simp only[xP hfd,hfd]
 repeat' split
 all_goals first |rfl |exact (uV _).symm
theorem Mh(how:Int)(a b:Nd):bH fd how (aP a) (aP b)=cG (bH fd how a b):=by
 unfold bH;simp only[hfd]
 repeat' split
 all_goals first |rfl |exact (uV _).symm
theorem EI(how:Int)(a b:Nd):numbers fd how (aP a) (aP b)=cG (numbers fd how a b):=by
 unfold numbers;simp only[Mh hfd];split<;>rfl
theorem EJ(how:Int)(a b:Nd):bE fd how (aP a) (aP b)=cG (bE fd how a b):=by
 unfold bE;simp only[EI hfd,EH hfd,hfd,apply_ite cG,uV];rfl
theorem GQ(how:Int)(a b:Nd):values fd how (aP a) (aP b)=cG (values fd how a b):=by
 unfold values;simp only[EJ hfd,apply_ite cG];rfl
end
theorem SU{c:Cd}(h:NF us l Q c):c.isT=false∧c.isF=false:=by
 cases c with
 |gate n ks=>exact⟨rfl,rfl⟩
 |atom k n vs=>
  obtain⟨_,⟨rfl,_⟩ |⟨rfl,_⟩⟩:=h<;>exact⟨rfl,rfl⟩
theorem mQ(c:Cd):(cG c).isT=c.isT∧(cG c).isF=c.isF:=by
 cases c<;>exact⟨rfl,rfl⟩
theorem Pq{need:Int}{n:Nat}(c:Cd):Unm need n (cG c)↔Unm need n c:=by
 cases c with
 |atom k m vs=>exact Iff.rfl
 |gate m ks=>simp[cG,Unm,oa]
theorem Em(n:Nd):ak us l (aP n)=ak us l n:=rfl
mutual
theorem Dn:∀ (c:Cd) (b:Nat),NF us l Q c->norm (ak us l) false (aV b c)=cG c
 |.atom k num vs,b,h=>by
  obtain⟨_,⟨rfl,a,b',rfl,w,e⟩ |⟨rfl,rfl,x,lo,hi,rfl,hk,hx,e⟩⟩:=h
  ·have e2:=GQ (fd:=ak us l) Em num a b';rw[e]at e2;simp only[aV,norm,bC,cF,bG,sg,Tr.n,ae0,afF];simpa[dL]using e2
  ·have e2:=xP (fd:=ak us l) Em x lo hi;rw[e]at e2;have hk':(aP x).k=9:=hk;simp only[aV,norm,bC,cF,bG,sg,Tr.n,ae0,afF];have hc:True∧(aP x).k=9∧(aP (bw lo)).k=10∧(aP (bw hi)).k=10:=⟨trivial,hk',rfl,rfl⟩
   rw[if_neg (by decide),if_neg (by decide),if_neg (by decide),if_neg (by decide),if_pos trivial,if_pos hc];exact e2
 |.gate need ks,b,⟨h2,h1,h3,hk⟩=>by
  have hs:=BP ks (b+1) λc hc=>(cu.1 hk c hc).1
  simp only[aV,norm,cV];rw[if_neg (by decide),if_neg (by decide),if_neg (by decide),if_neg (by decide),if_neg (by decide),if_neg (by decide),if_neg (by decide),if_neg (by decide),hs];have hm:∀ c∈iM ks,∃ d∈ks,c=cG d:=λc hc=>by
   rw[oa]at hc;obtain⟨d,hd,rfl⟩:=aeg.1 hc;exact⟨d,hd,rfl⟩
  have hl:(iM ks).length=ks.length:=by rw[oa];simp
  exact Pp (λc hc=>by
   obtain⟨d,hd,rfl⟩:=hm c hc;rw[(mQ d).1,(mQ d).2];exact SU (cu.1 hk d hd).1) (by omega) h1 (by omega) (λc hc=>by
   obtain⟨d,hd,rfl⟩:=hm c hc;rw[hl];exact (Pq d).2 (cu.1 hk d hd).2)
theorem BP:∀ (cs:List Cd) (b:Nat),(∀ c∈cs,NF us l Q c)->gh (ak us l) false (cX b cs)=iM cs
 | [],_,_=>rfl
 |c :: cs,b,h=>by
  simp only[cX,gh,iM];rw[Dn c b (h c (by simp)),BP cs (b+c.size) λx hx=>h x (by simp[hx])]
end
theorem SV(fd:Nd->Fd)(bb:Bool)(b:Nat):norm fd false (aV b (cB bb))=cB bb:=by
 cases bb<;>simp[cB,aV,norm,bC]
theorem ql:∀ (vs:List Nd) (b:Nat),∀ s∈Tr.br (cF b vs),∃ i v,v∈vs∧s=.nd i (aP v) []
 | [],_,s,hs=>by simp[cF,Tr.br]at hs
 |v :: vs,b,s,hs=>by
  simp only[cF,Tr.br,Tr.subs,ael,aep,adY,aeA,or_false]at hs;rcases hs with rfl |hs
  ·exact⟨b,v,by simp,rfl⟩
  ·obtain⟨i,w,hw,e⟩:=ql vs (b+1) s hs;exact⟨i,w,by simp[hw],e⟩
theorem Mi(f:Nd->Option VT){i:Nat}{n:Nd}(h:n.k=9∨n.k=10∨n.k=11)(ks:List Tr):(cZ f (.nd i n ks)).2=0:=by
 simp only[cZ];rw[if_neg (by omega)]
theorem GR{k num:Int}{vs:List Nd}(h:AtN us l Q k num vs):∀ v∈vs,v.k=9∨v.k=10∨v.k=11:=by
 obtain⟨_,⟨rfl,a,b',rfl,w,e⟩ |⟨rfl,rfl,x,lo,hi,rfl,hk,hx,e⟩⟩:=h
 ·intro v hv;simp only[adY,aeA,or_false]at hv;rcases hv with rfl |rfl
  ·exact w.2.1
  ·exact w.2.2.1
 ·intro v hv;simp only[adY,aeA,or_false]at hv;rcases hv with rfl |rfl |rfl
  ·exact .inl hk
  ·exact .inr (.inl rfl)
  ·exact .inr (.inl rfl)
mutual
theorem Kz:∀ (c:Cd) (b:Nat),NF us l Q c->∀ s∈(aV b c).subs,(cZ (cg us l) s).2=0
 |.atom k num vs,b,h,s,hs=>by
  simp only[aV,Tr.subs,adY]at hs;rcases hs with rfl |hs
  ·obtain⟨_,⟨rfl,a,b',rfl,w,e⟩ |⟨rfl,rfl,x,lo,hi,rfl,hk,hx,e⟩⟩:=h
   ·obtain⟨hh,ka,kb,x,y,hx,hy,hag,hn⟩:=w;have hx':cg us l (aP a)=some x:=hx;have hy':cg us l (aP b')=some y:=hy;have hc:dI (bC b 6 num 2) [x,y]=0:=by
     have e1:(bC b 6 num 2).k=6:=rfl;have e2:(bC b 6 num 2).num=num:=rfl;unfold dI;rw[if_pos e1,e2,if_neg,oM,lK,if_pos hag,lK];rintro⟨q0,q1,q⟩;rcases hn with hn |⟨e1,e2⟩
     ·exact hn.elim q0 q1
     ·simp[e1,e2]at q
    simp only[cF,cZ];rw[if_pos (.inl rfl)];simp only[iA,Tr.n,hx',hy',ad1,adZ];rw[if_pos hc]
   ·have hx':cg us l (aP x)=some .num:=hx;simp only[cF,cZ];rw[if_pos (.inr (.inl rfl))];have hc:dI (bC b 7 0 (0+1+1+1)) [.num,.num,.num]=0:=by simp[dI,bC,isNum]
    simp only[iA,Tr.n,hx',Mg,SS,ad1,adZ];rw[if_pos hc]
  ·obtain⟨i,v,hv,rfl⟩:=ql vs (b+1) s hs;exact Mi (n:=aP v) _ (GR h v hv) _
 |.gate need ks,b,⟨h2,h1,h3,hk⟩,s,hs=>by
  simp only[aV,Tr.subs,adY]at hs;rcases hs with rfl |hs
  ·have e:(cV b need ks).k=5:=rfl;simp only[cZ,e];simp
  ·exact GU ks (b+1) (λc hc=>(cu.1 hk c hc).1) s hs
theorem GU:∀ (cs:List Cd) (b:Nat),(∀ c∈cs,NF us l Q c)->∀ s∈Tr.br (cX b cs),(cZ (cg us l) s).2=0
 | [],_,_,s,hs=>by simp[cX,Tr.br]at hs
 |c :: cs,b,h,s,hs=>by
  simp only[cX,Tr.br,aep]at hs;rcases hs with hs |hs
  ·exact Kz c b (h c (by simp)) s hs
  ·exact GU cs (b+c.size) (λx hx=>h x (by simp[hx])) s hs
end
def Shp(Q:Nd->Prop)(s:Tr):Prop:=(s.n.k=5∨s.n.k=6∨s.n.k=7∨s.n.k=9∨s.n.k=10∨s.n.k=11) ∧
 (s.n.k=5->2<=s.ks.length∧∀ x∈s.ks,x.n.k=5->¬ (s.n.num=(s.ks.length:Int)∧x.n.num=(x.ks.length:Int))∧¬ (s.n.num=1∧x.n.num=1)) ∧
 (s.n.k=9->∃ v,Q v∧s.n=aP v)
theorem BQ:∀ {cs:List Cd} {b:Nat} {x:Tr},x∈cX b cs->∃ c∈cs,∃ b',x=aV b' c
 | [],_,x,h=>by simp[cX]at h
 |c :: cs,b,x,h=>by
  simp only[cX,adY]at h;rcases h with rfl |h
  ·exact⟨c,by simp,b,rfl⟩
  ·obtain⟨d,hd,b',e⟩:=BQ h;exact⟨d,by simp[hd],b',e⟩
mutual
theorem GV:∀ (c:Cd) (b:Nat),NF us l Q c->∀ s∈(aV b c).subs,Shp Q s
 |.atom k num vs,b,h,s,hs=>by
  simp only[aV,Tr.subs,adY]at hs;rcases hs with rfl |hs
  ·have hk:k=6∨k=7:=by
    obtain⟨_,⟨rfl,_⟩ |⟨rfl,_⟩⟩:=h
    ·exact .inl rfl
    ·exact .inr rfl
   refine⟨?_,λe=>?_,λe=>?_⟩
   ·show k=5∨k=6∨k=7∨_;omega
   ·have e:k=5:=e;omega
   ·have e:k=9:=e;omega
  ·obtain⟨i,v,hv,rfl⟩:=ql vs (b+1) s hs;have:=GR h v hv;refine⟨?_,λe=>?_,λe=>⟨v,h.1 v hv e,rfl⟩⟩
   ·show v.k=5∨v.k=6∨v.k=7∨v.k=9∨v.k=10∨v.k=11;omega
   ·have e:v.k=5:=e;omega
 |.gate need ks,b,⟨h2,h1,h3,hk⟩,s,hs=>by
  simp only[aV,Tr.subs,adY]at hs;rcases hs with rfl |hs
  ·refine⟨.inl rfl,λ_=>⟨by simp only[Tr.ks];rw[wS];exact h2,λx hx e=>?_⟩,λe=>absurd e (by simp[Tr.n,cV])⟩;obtain⟨c,hc,b',rfl⟩:=BQ hx;obtain⟨n1,n2⟩:=cu.1 hk c hc;cases c with
   |atom k n vs=>
    have e:k=5:=e;obtain⟨_,⟨rfl,_⟩ |⟨rfl,_⟩⟩:=n1
    ·omega
    ·omega
   |gate m js=>
    simp only[aV,Tr.n,Tr.ks,cV,wS];exact n2
  ·exact Dp ks (b+1) (λc hc=>(cu.1 hk c hc).1) s hs
theorem Dp:∀ (cs:List Cd) (b:Nat),(∀ c∈cs,NF us l Q c)->∀ s∈Tr.br (cX b cs),Shp Q s
 | [],_,_,s,hs=>by simp[cX,Tr.br]at hs
 |c :: cs,b,h,s,hs=>by
  simp only[cX,Tr.br,aep]at hs;rcases hs with hs |hs
  ·exact GV c b (h c (by simp)) s hs
  ·exact Dp cs (b+c.size) (λx hx=>h x (by simp[hx])) s hs
end
end
/- adM. -/
section
variable(fd:Nd->Fd)
theorem gT:∀ a b:List Cd,Cd.sizes (a++b)=Cd.sizes a+Cd.sizes b
 | [],b=>by simp[Cd.sizes]
 |c :: a,b=>by simp[Cd.sizes,gT a b,aeP]
theorem sY:∀ cs:List Cd,Cd.sizes (rest cs)<=Cd.sizes cs
 | []=>adX _
 |c :: cs=>by
  have:=sY cs;unfold rest at this ⊢;rw[afl];split
  ·simp only[Cd.sizes];omega
  ·simp only[Cd.sizes];omega
theorem lD(w:Bool)(k:Int):∀ cs:List Cd,Cd.sizes (aY w k cs)<=Cd.sizes cs
 | []=>adX _
 |c :: cs=>by
  have:=lD w k cs;have h1:Cd.sizes (cE w k c)<=c.size:=by
   cases c with
   |atom a n vs=>simp[cE,Cd.sizes]
   |gate n ks=>
    simp only[cE];split
    ·simp[Cd.size]
    ·simp[Cd.sizes]
  simp only[aY,gT,Cd.sizes];omega
theorem rq(b:Bool):(cB b).size=1:=rfl
theorem qm(k:Int)(cs:List Cd):(thr k cs).size<=1+Cd.sizes cs:=by
 have h1:=sY cs;unfold thr;split
 ·rw[rq];omega
 split
 ·rw[rq];omega
 split
 ·rename_i c hr;rw[hr]at h1;simp only[Cd.sizes]at h1;omega
 ·split
  ·have:=lD true (k-dD cs) (rest cs);simp only[Cd.size];omega
  ·have:=lD false (k-dD cs) (rest cs);simp only[Cd.size];omega
theorem xQ(x:Nd)(lo hi:Int):(within fd x lo hi).size<=4:=by
 unfold within
 repeat' split
 all_goals simp[cB,dL,Cd.size]
theorem EK(how:Int)(x:Nd)(c:Int):(bounded fd how x c).size<=4:=by
 unfold bounded
 repeat' split
 all_goals first |exact xQ fd _ _ _ |simp[cB,dL,Cd.size]
theorem Mj(how:Int)(a b:Nd):(bH fd how a b).size<=4:=by
 rcases oc fd how a b with⟨c,e⟩ |e
 ·rw[e,rq];omega
 ·rw[e];simp[dL,Cd.size]
theorem EL(how:Int)(a b:Nd):(bE fd how a b).size<=4:=by
 unfold bE numbers
 repeat' split
 all_goals first |exact EK fd _ _ _ |exact Mj fd _ _ _ |simp[cB,dL,Cd.size]
theorem fL(how:Int)(a b:Nd):(values fd how a b).size<=4:=by
 unfold values;split<;>exact EL fd _ _ _
theorem vJ{α:Type}(f:α->Cd)(h:∀ x,(f x).size<=4):∀ r:List α,Cd.sizes (r.map f)<=4*r.length
 | []=>adX _
 |x :: r=>by
  have:=vJ f h r;have:=h x;simp only[Io,Cd.sizes,ad1];omega
theorem D7:∀ ks:List Tr,ks.length<=(Tr.br ks).length
 | []=>adX _
 |t :: ts=>by
  have:=D7 ts;have h1:1<=t.subs.length:=by cases t;simp[Tr.subs]
  simp only[Tr.br,ad9,ad1];omega
mutual
theorem wC:∀ (t:Tr) (neg:Bool),(norm fd neg t).size<=9*t.subs.length
 |.nd i n ks,neg=>by
  have hk:=D7 ks;have hn:=sW ks;have hl:(Tr.nd i n ks).subs.length=(Tr.br ks).length+1:=by simp[Tr.subs]
  rw[hl];unfold norm;split
  ·rw[rq];omega
  split
  ·rw[rq];omega
  split
  ·cases ks with
   |nil=>simp only[KA,rq];omega
   |cons t ts=>
    have:=wC t (!neg);simp only[KA,Tr.br,ad9];omega
  split
  ·have:=fL fd (sg neg n.num) (bG ks 0) (bG ks 1);omega
  split
  ·split
   ·have:=xQ fd (bG ks 0) (bG ks 1).num (bG ks 2).num;omega
   ·have h1:=fL fd (sg neg 5) (bG ks 0) (bG ks 1);have h2:=fL fd (sg neg 3) (bG ks 0) (bG ks 2);unfold ofC;exact aeS (qm _ _) (by simp only[Cd.sizes];omega)
  split
  ·have h1:=vJ (λt:Tr=>values fd (sg neg 0) (bG ks 0) t.n) (λt=>fL fd _ _ _) (ks.drop 1);have h2:(ks.drop 1).length<=ks.length:=by simp
   unfold ofC;exact aeS (qm _ _) (by omega)
  have hnn:=hn neg;split
  ·unfold ofC;exact aeS (qm _ _) (by omega)
  split
  ·unfold ofC;exact aeS (qm _ _) (by omega)
  ·unfold ofC;exact aeS (qm _ _) (by omega)
theorem sW:∀ (ts:List Tr) (neg:Bool),Cd.sizes (gh fd neg ts)<=9*(Tr.br ts).length
 | [],_=>adX _
 |t :: ts,neg=>by
  have h1:=wC t neg;have h2:=sW ts neg;simp only[gh,Cd.sizes,Tr.br,ad9];omega
end
end
/- The normal form of a policy. -/
def ij(p:Po)(c:Cd):Po:={ p with nodes:=⟨false,flat 0 c⟩,root:=0 }
theorem mP{p:Po}{c:Cd}(h:chk (ij p c)=0):Good (ij p c) (aV 0 c):=by
 obtain⟨t,g⟩:=FY h;have h1:IsT (ij p c).nodes.l (aV 0 c):=vC c 0 (DU _);have e:t=aV 0 c:=GN t (aV 0 c) g.isT h1 (by
  have h2:(t.i:Int)=0:=g.root;rw[DV];omega)
 rw[<-e];exact g
def NFp(us:List Us)(l:List Sc)(Q:Nd->Prop)(c:Cd):Prop:=Cst c∨NF us l Q c
theorem Pr{us:List Us}{l:List Sc}{Q:Nd->Prop}{c:Cd}(h:NFp us l Q c):∀ s∈(aV 0 c).subs,(cZ (cg us l) s).2=0:=by
 rcases h with⟨b,rfl⟩ |h
 ·intro s hs;cases b<;>simp[cB,aV,Tr.subs,cF,Tr.br]at hs<;>subst hs<;>simp[cZ,bC]
 ·exact Kz c 0 h
theorem Fg{us:List Us}{l:List Sc}{Q:Nd->Prop}{c:Cd}(h:NFp us l Q c):norm (ak us l) false (aV 0 c)=cG c:=by
 rcases h with⟨b,rfl⟩ |h
 ·rw[SV,uV]
 ·exact Dn c 0 h
theorem BR:∀ {es:List (Int×Int)},(∀ e∈es,e.2=0)->eI es=(0,0)
 | [],_=>rfl
 |e :: es,h=>by rw[eI,if_pos (h e (by simp)),BR λx hx=>h x (by simp[hx])]
theorem Dq:∀ {es:List (Int×Int)},(eI es).2=0->∀ e∈es,e.2=0
 | [],_,e,h=>by cases h
 |x :: es,h,e,he=>by
  simp only[eI]at h;split at h
  ·rename_i h0;rcases adY.1 he with rfl |he
   ·exact h0
   ·exact Dq h e he
  ·rename_i h0;exact absurd h h0
theorem gS{p:Po}{l:List Sc}{t:Tr}(h:(fB p l t).2=0):bI p l=0∧p.aA.l.all (λr=>(findF p.uses.l l r).isSome)=true∧(∀ s∈t.subs,(cZ (cg p.uses.l l) s).2=0):=by
 unfold fB at h;split at h
 ·rename_i c;exact absurd h c
 rename_i c1;split at h
 ·simp at h
 rename_i c2;refine⟨by simpa using c1,(afs _).mp c2,λs hs=>?_⟩;rw[jr]at h;exact Dq h _ (aeg.2 ⟨s,hs,rfl⟩)
theorem Ml{p:Po}{l:List Sc}(h:bI p l=0):chk p=0:=by
 unfold bI at h;split at h
 ·rename_i c;exact absurd h c
 ·rename_i c;simpa using c
theorem Mm{p:Po}{l:List Sc}{c:Cd}(h:bI p l=0)(hc:chk (ij p c)=0):bI (ij p c) l=0:=by
 have h0:=Ml h;unfold bI at h ⊢;rw[h0]at h;rw[hc];exact h
theorem DY{p:Po}{l:List Sc}{t:Tr}{Q:Nd->Prop}{c:Cd}(h:(fB p l t).2=0)(hc:chk (ij p c)=0)(hn:NFp p.uses.l l Q c):fB (ij p c) l (aV 0 c)=(0,0):=by
 obtain⟨h1,h2,h3⟩:=gS h;unfold fB;rw[if_neg (by rw[Mm h1 hc];simp),if_neg (by show ¬ p.aA.l.all (λr=>(findF p.uses.l l r).isSome)=false;rw[h2];simp),jr];exact BR λe he=>by
  obtain⟨s,hs,rfl⟩:=aeg.1 he;exact Pr hn s hs
theorem mE{p:Po}{l:List Sc}{t:Tr}{Q:Nd->Prop}(g:Good p t)(h:(fB p l t).2=0)(hq:∀ s∈t.subs,s.n.k=9->Q s.n)(neg:Bool):NFp p.uses.l l Q (norm (ak p.uses.l l) neg t):=
 EG t neg (Om t g.isT g.wf (gS h).2.2) hq
end Go.Ab.Pol
