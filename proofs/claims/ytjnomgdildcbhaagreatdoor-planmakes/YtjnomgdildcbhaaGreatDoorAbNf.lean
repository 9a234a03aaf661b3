/-
  Normal forms: what they look like, that their values fit, and that they are their own normal forms.
-/
import Derived.Test.YtjnomgdildcbhaaGreatDoorAbFlat
set_option linter.all false
namespace Go.Ab.Pol
mutual
def cE:Cd->Cd
 |.atom k num vs=>.atom k num (vs.map aM)
 |.gate j5 ks=>.gate j5 (jl ks)
def jl:List Cd->List Cd
 | []=>[]
 |c::cs=>cE c::jl cs
end
theorem qd:∀l:List Cd,jl l=l.map cE
 | []=>rfl
 |c::l=>by simp[jl,qd l]
mutual
theorem iF:∀c:Cd,(cE c).size=c.size
 |.atom k num vs=>by simp[cE,Cd.size]
 |.gate j5 ks=>by simp[cE,Cd.size,mj ks]
theorem mj:∀cs:List Cd,Cd.sizes (jl cs)=Cd.sizes cs
 | []=>rfl
 |c::cs=>by simp[jl,Cd.sizes,iF c,mj cs]
end
theorem Al:∀(cs:List Cd) (b:Nat),starts b (jl cs)=starts b cs
 | [],_=>rfl
 |c::cs,b=>by simp[jl,starts,iF c,Al cs]
theorem Oj(n:Int):aM (bq n)=bq n:=rfl
mutual
theorem sP:∀(c:Cd) (b:Nat),flat b (cE c)=flat b c
 |.atom k num vs,b=>by
  simp only[cE,flat,afv,af0]
  congr 1
 |.gate j5 ks,b=>by simp[cE,flat,Dk ks,cj,Al]
theorem Dk:∀(cs:List Cd) (b:Nat),gJ b (jl cs)=gJ b cs
 | [],_=>rfl
 |c::cs,b=>by simp[jl,gJ,sP c,Dk cs,iF]
end
theorem HQ:∀t:Tr,t∈t.subs:=λt=>by cases t;simp[Tr.subs]
theorem wJ{t s:Tr}:∀{ts:List Tr},t∈ts->s∈t.subs->s∈Tr.bL ts
 | [],h,_=>by cases h
 |x::ts,h,hs=>by
  simp only[Tr.bL,afR];rcases afp.1 h with rfl|h
  ·exact .inl hs
  ·exact .inr (wJ h hs)
def Unm(j5:Int)(n:Nat):Cd->Prop
 |.atom _ _ _=>True
 |.gate m ks=>¬ (j5=(n:Int)∧m=(ks.length:Int))∧¬ (j5=1∧m=1)
def Cst(c:Cd):Prop:=∃b,c=cB b
section
variable(us:List Us)(l:List Sc)(Q:Nd->Prop)
def Wt(j6:Int)(a b:Nd):Prop:=How j6∧(a.k=9∨a.k=10∨a.k=11)∧(b.k=9∨b.k=10∨b.k=11) ∧
 ∃x y,bS us l a=some x∧bS us l b=some y∧aV x y=0∧((j6=0∨j6=1)∨(isNum x=true∧isNum y=true))
def AtN(k num:Int)(vs:List Nd):Prop:=
  (∀v∈vs, v.k=9->Q v) ∧
  ((k=6∧∃a b, vs=[a, b]∧Wt us l num a b∧values (au us l) num a b=dV num a b) ∨
   (k=7∧num=0∧∃x lo hi, vs=[x, bq lo, bq hi]∧x.k=9∧bS us l x=some .num∧within (au us l) x lo hi=.atom 7 0 [x, bq lo, bq hi]))
mutual
def NF:Cd->Prop
 |.atom k num vs=>AtN us l Q k num vs
 |.gate j5 ks=>2<=ks.length∧1<=j5∧j5<=(ks.length:Int)∧NFs j5 ks.length ks
def NFs(j5:Int)(n:Nat):List Cd->Prop
 | []=>True
 |c::cs=>NF c∧Unm j5 n c∧NFs j5 n cs
end
mutual
def Tw:Tr->Prop
 |.nd _ n ks=>0<=n.k∧n.k<=8∧(n.k=2->ks.length=1)∧(n.k<=5->Tws ks) ∧
  (n.k=6->Wt us l n.num (dY ks 0) (dY ks 1)) ∧
  (n.k=7->Wt us l 5 (dY ks 0) (dY ks 1)∧Wt us l 3 (dY ks 0) (dY ks 2)) ∧
  (n.k=8->∀t∈ks.drop 1,Wt us l 0 (dY ks 0) t.n)
def Tws:List Tr->Prop
 | []=>True
 |t::ts=>Tw t∧Tws ts
end
end
section
variable{us:List Us}{l:List Sc}{Q:Nd->Prop}
theorem eK{j5:Int}{n:Nat}:∀{cs:List Cd},NFs us l Q j5 n cs↔∀c∈cs,NF us l Q c∧Unm j5 n c
 | []=>by simp[NFs]
 |c::cs=>by simp[NFs,eK (cs:=cs),and_assoc]
theorem Kz{x y:VT}(h:aV x y=0):aV y x=0:=by
 cases x<;>cases y<;>simp only[aV]at h⊢<;>first|exact h|skip
 rename_i a b;split at h
 ·rename_i e;rw[if_pos e.symm]
 ·exact absurd h (by decide)
theorem Wt.cN{j6:Int}{a b:Nd}(h:Wt us l j6 a b):Wt us l (cN j6) b a:=by
 obtain⟨h1,h2,h3,x,y,hx,hy,ha,hn⟩:=h;refine⟨uR h1,h3,h2,y,x,hy,hx,Kz ha,?_⟩;rcases hn with (rfl|rfl)|⟨e1,e2⟩
 ·exact .inl (.inl rfl)
 ·exact .inl (.inr rfl)
 ·exact .inr ⟨e2,e1⟩
theorem Wt.ac2{j6:Int}{a b:Nd}(h:Wt us l j6 a b):Wt us l (complement j6) a b:=by
 obtain⟨h1,h2,h3,x,y,hx,hy,ha,hn⟩:=h;refine⟨Ef h1,h2,h3,x,y,hx,hy,ha,?_⟩;rcases hn with (rfl|rfl)|⟨e1,e2⟩
 ·exact .inl (.inr rfl)
 ·exact .inl (.inl rfl)
 ·exact .inr ⟨e1,e2⟩
theorem Wt.sg{j6:Int}{a b:Nd}(h:Wt us l j6 a b)(neg:Bool):Wt us l (sg neg j6) a b:=by
 cases neg
 ·exact h
 ·exact h.ac2
theorem UD(n:Int):bS us l (bq n)=some .num:=rfl
theorem RI{j6:Int}(hh:How j6){x:Nd}(hk:x.k=9)(hx:bS us l x=some .num)(n:Int):Wt us l j6 x (bq n):=
 ⟨hh,.inl hk,.inr (.inl rfl),.num,.num,hx,rfl,rfl,.inr ⟨rfl,rfl⟩⟩
theorem Cw(n:Int):¬ (bq n).k=9:=by simp[bq]
theorem MN(n:Int):(bq n).k=10:=rfl
theorem lA{x:Nd}(hk:x.k=9)(hx:bS us l x=some .num)(hQ:Q x)(lo hi:Int):Cst (within (au us l) x lo hi)∨NF us l Q (within (au us l) x lo hi):=by
 generalize hfd:au us l=fd;by_cases c1:min hi (fd x).mx<max lo (fd x).mn
 ·exact .inl ⟨false,by unfold within;rw[if_pos c1]⟩
 by_cases c2:max lo (fd x).mn=(fd x).mn∧min hi (fd x).mx=(fd x).mx
 ·exact .inl ⟨true,by unfold within;rw[if_neg c1,if_pos c2]⟩
 right;by_cases c3:max lo (fd x).mn=min hi (fd x).mx
 ·have e:within fd x lo hi=dV 0 x (bq (max lo (fd x).mn)):=by unfold within;rw[if_neg c1,if_neg c2,if_pos c3]
  rw[e];refine⟨λv hv h9=>?_,.inl ⟨rfl,x,bq (max lo (fd x).mn),rfl,RI (.inl rfl) hk hx _,?_⟩⟩
  ·simp only[afp,afZ,or_false]at hv;rcases hv with rfl|rfl
   ·exact hQ
   ·exact absurd h9 (Cw _)
  ·rw[hfd];have e2:values fd 0 x (bq (max lo (fd x).mn))=within fd x (max lo (fd x).mn) (max lo (fd x).mn):=by
    unfold values;rw[if_neg (by simp[hk])];unfold bP;rw[if_neg (by omega),if_neg (by omega),if_pos (MN _)];simp[bounded,bq]
   rw[e2];unfold within;rw[if_neg (by omega),if_neg (by omega),if_pos (by omega)]
   congr 2
   omega
 ·have e:within fd x lo hi=.atom 7 0 [x,bq (max lo (fd x).mn),bq (min hi (fd x).mx)]:=by unfold within;rw[if_neg c1,if_neg c2,if_neg c3]
  rw[e];refine⟨λv hv h9=>?_,.inr ⟨rfl,rfl,x,_,_,rfl,hk,hx,?_⟩⟩
  ·simp only[afp,afZ,or_false]at hv;rcases hv with rfl|rfl|rfl
   ·exact hQ
   ·exact absurd h9 (Cw _)
   ·exact absurd h9 (Cw _)
  ·rw[hfd];have e1:max (max lo (fd x).mn) (fd x).mn=max lo (fd x).mn:=by omega
   have e2:min (min hi (fd x).mx) (fd x).mx=min hi (fd x).mx:=by omega
   unfold within;rw[e1,e2,if_neg c1,if_neg c2,if_neg c3]
theorem KA{j6:Int}(hh:How j6){x:Nd}(hk:x.k=9)(hx:bS us l x=some .num)(hQ:Q x)(c:Int):Cst (bounded (au us l) j6 x c)∨NF us l Q (bounded (au us l) j6 x c):=by
 by_cases h1:j6=1
 ·subst h1;by_cases c1:c<(au us l x).mn∨(au us l x).mx<c
  ·exact .inl ⟨true,by simp[bounded,c1]⟩
  by_cases c2:(au us l x).mn=(au us l x).mx
  ·exact .inl ⟨false,by simp only[bounded];rw[if_neg (by decide),if_neg (by decide),if_neg (by decide),if_neg (by decide),if_neg (by decide),if_neg c1,if_pos c2]⟩
  have e:bounded (au us l) 1 x c=dV 1 x (bq c):=by
   simp only[bounded];rw[if_neg (by decide),if_neg (by decide),if_neg (by decide),if_neg (by decide),if_neg (by decide),if_neg c1,if_neg c2]
  right;rw[e];refine⟨λv hv h9=>?_,.inl ⟨rfl,x,bq c,rfl,RI (.inr (.inl rfl)) hk hx _,?_⟩⟩
  ·simp only[afp,afZ,or_false]at hv;rcases hv with rfl|rfl
   ·exact hQ
   ·exact absurd h9 (Cw _)
  ·rw[<-e];unfold values;rw[if_neg (by simp[hk])];unfold bP;rw[if_neg (by omega),if_neg (by omega),if_pos (MN _)];rfl
 ·unfold bounded;rcases hh with rfl|rfl|rfl|rfl|rfl|rfl
  ·exact lA hk hx hQ _ _
  ·exact absurd rfl h1
  ·exact lA hk hx hQ _ _
  ·exact lA hk hx hQ _ _
  ·exact lA hk hx hQ _ _
  ·exact lA hk hx hQ _ _
theorem pM(fd:Nd->Fd)(j6:Int)(a b:Nd):Cst (cP fd j6 a b)∨cP fd j6 a b=dV j6 a b:=by
 unfold cP
 repeat' split
 all_goals first|exact .inr rfl|exact .inl ⟨_,rfl⟩
theorem lU{a:Nd}(hk:a.k=9)(h:bS us l a=some .num):(au us l a).kind=0:=by
 rcases JK (.inl hk) h with h|h
 ·exact h.2
 ·omega
theorem wH{a:Nd}{x:VT}(hk:a.k=9)(h:bS us l a=some x)(h0:(au us l a).kind=0):x=.num:=by
 cases x with
 |num=>rfl
 |wd w=>have:=(Lx h).1;omega
 |fw ws=>exact absurd h0 (Lz (.inl hk) h).2.1
theorem MO{j6:Int}(h3:j6=0∨j6=1∨j6=2∨j6=3){a b:Nd}(ha:a.k=9)(hb:b.k=9)(ta:bS us l a=some .num)(tb:bS us l b=some .num)(hne:¬ (a.nm=b.nm∧a.attr=b.attr))(qa:Q a)(qb:Q b) :
  Cst (cP (au us l) j6 a b)∨NF us l Q (cP (au us l) j6 a b):=by
 rcases pM (au us l) j6 a b with h|e
 ·exact .inl h
 right;rw[e];have hh:How j6:=by unfold How;omega
 refine⟨λv hv h9=>?_,.inl ⟨rfl,a,b,rfl,⟨hh,.inl ha,.inl hb,.num,.num,ta,tb,rfl,.inr ⟨rfl,rfl⟩⟩,?_⟩⟩
 ·simp only[afp,afZ,or_false]at hv;rcases hv with rfl|rfl
  ·exact qa
  ·exact qb
 ·rw[<-e];unfold values;rw[if_neg (by simp[ha])];unfold bP;rw[if_neg (by omega),if_neg (by omega),if_neg (by omega),if_neg (λq=>hne q.2),if_pos (lU ha ta)];unfold numbers;rw[if_neg (by omega)]
theorem KB{j6:Int}(hh:How j6){a b:Nd}(ha:a.k=9)(hb:b.k=9)(ta:bS us l a=some .num)(tb:bS us l b=some .num)(hne:¬ (a.nm=b.nm∧a.attr=b.attr))(qa:Q a)(qb:Q b) :
  Cst (numbers (au us l) j6 a b)∨NF us l Q (numbers (au us l) j6 a b):=by
 unfold numbers;split
 ·rename_i c;refine MO ?_ hb ha tb ta (λq=>hne ⟨q.1.symm,q.2.symm⟩) qb qa;rcases c with rfl|rfl<;>simp[cN]
 ·rename_i c;refine MO ?_ ha hb ta tb hne qa qb;unfold How at hh;omega
theorem Dl{j6:Int}{a b:Nd}(w:Wt us l j6 a b)(hs:¬ (a.k≠9∧b.k=9))(qa:a.k=9->Q a)(qb:b.k=9->Q b) :
  Cst (bP (au us l) j6 a b)∨NF us l Q (bP (au us l) j6 a b):=by
 have w0:=w;obtain⟨hh,ka,kb,x,y,hx,hy,hag,hn⟩:=w;by_cases c1:a.k=10
 ·exact .inl ⟨_,by unfold bP;rw[if_pos c1]⟩
 by_cases c2:a.k=11
 ·exact .inl ⟨_,by unfold bP;rw[if_neg c1,if_pos c2]⟩
 have ha:a.k=9:=by omega
 by_cases c3:b.k=10
 ·have e:bP (au us l) j6 a b=bounded (au us l) j6 a b.num:=by unfold bP;rw[if_neg c1,if_neg c2,if_pos c3]
  rw[e];refine KA hh ha ?_ (qa ha) _;have:bS us l b=some .num:=by unfold bS;rw[if_pos c3]
  rw[this]at hy;injection hy with hy
  subst hy;cases x with
  |num=>exact hx
  |wd w=>exact absurd hag (by simp[aV])
  |fw w=>exact absurd hag (by simp[aV])
 by_cases c4:b.k=9∧a.nm=b.nm∧a.attr=b.attr
 ·exact .inl ⟨_,by unfold bP;rw[if_neg c1,if_neg c2,if_neg c3,if_pos c4]⟩
 by_cases c5:(au us l a).kind=0
 ·have e:bP (au us l) j6 a b=numbers (au us l) j6 a b:=by unfold bP;rw[if_neg c1,if_neg c2,if_neg c3,if_neg c4,if_pos c5]
  rw[e];have ex:=wH ha hx c5;subst ex;have ey:y=.num:=by
   cases y with
   |num=>rfl
   |wd w=>exact absurd hag (by simp[aV])
   |fw w=>exact absurd hag (by simp[aV])
  subst ey;have hb:b.k=9:=by
   rcases JK kb hy with h|h
   ·exact h.1
   ·exact absurd h c3
  exact KB hh ha hb hx hy (λq=>c4 ⟨hb,q⟩) (qa ha) (qb hb)
 by_cases c6:(au us l a).words.l.length=1
 ·exact .inl ⟨_,by unfold bP;rw[if_neg c1,if_neg c2,if_neg c3,if_neg c4,if_neg c5,if_pos c6]⟩
 have e:bP (au us l) j6 a b=dV j6 a b:=by unfold bP;rw[if_neg c1,if_neg c2,if_neg c3,if_neg c4,if_neg c5,if_neg c6]
 right;rw[e];refine⟨λv hv h9=>?_,.inl ⟨rfl,a,b,rfl,w0,?_⟩⟩
 ·simp only[afp,afZ,or_false]at hv;rcases hv with rfl|rfl
  ·exact qa h9
  ·exact qb h9
 ·rw[<-e];unfold values;rw[if_neg (by simp[ha])]
theorem kX{j6:Int}{a b:Nd}(w:Wt us l j6 a b)(qa:a.k=9->Q a)(qb:b.k=9->Q b):Cst (values (au us l) j6 a b)∨NF us l Q (values (au us l) j6 a b):=by
 unfold values;split
 ·exact Dl w.cN (by omega) qb qa
 ·rename_i c;exact Dl w c qa qb
theorem rA{cs:List Cd}{c:Cd}(h:c∈rest cs):c∈cs∧¬ Cst c:=by
 unfold rest at h;obtain⟨h1,h2⟩:=agC.1 h;refine⟨h1,?_⟩;rintro⟨b,rfl⟩;cases b<;>simp[cB,Cd.isT,Cd.isF]at h2
theorem zA{w:Bool}{k:Int}:∀{cs:List Cd},(∀c∈cs,NF us l Q c)->cs.length<=(bw w k cs).length
 | [],_=>afm _
 |c::cs,h=>by
  have ih:=zA (w:=w) (k:=k) (cs:=cs) λx hx=>h x (by simp[hx])
  have h1:1<=(cX w k c).length:=by
   cases c with
   |atom k' n vs=>simp[cX]
   |gate n ks=>
    have:=(h (.gate n ks) (by simp)).1;simp only[cX];split
    ·omega
    ·simp
  simp only[bw,afr,Io];omega
theorem sS{w:Bool}{k:Int}{c:Cd}:∀{cs:List Cd},c∈bw w k cs->∃d∈cs,c∈cX w k d
 | [],h=>by simp[bw]at h
 |d::cs,h=>by
  simp only[bw,afR]at h;rcases h with h|h
  ·exact⟨d,by simp,h⟩
  ·obtain⟨e,he,h⟩:=sS h;exact⟨e,by simp[he],h⟩
theorem Yf{k:Int}{cs:List Cd}(h:∀c∈cs,Cst c∨NF us l Q c):Cst (thr k cs)∨NF us l Q (thr k cs):=by
 have hr:∀c∈rest cs,NF us l Q c:=λc hc=>(h c (rA hc).1).resolve_left (rA hc).2
 unfold thr;split
 ·exact .inl ⟨_,rfl⟩
 rename_i c1;split
 ·exact .inl ⟨_,rfl⟩
 rename_i c2;generalize k-gW cs=k' at c1 c2;generalize rest cs=r at hr c2;right;split
 ·exact hr _ (by simp)
 rename_i hne;have h2:2<=r.length:=by
  match r,hne,c1,c2 with
  | [],_,_,c2=>simp only[iO]at c2;omega
  | [c],hne,_,_=>exact absurd rfl (hne c)
  |a::b::r,_,_,_=>simp
 split
 ·rename_i c3;have hl:=zA (w:=true) (k:=k') hr;refine⟨by omega,by omega,Int.le_refl _,eK.2 λc hc=>?_⟩;obtain⟨d,hd,hc⟩:=sS hc;have nd:=hr d hd;cases d with
  |atom a n vs=>
   simp only[cX,afO]at hc;subst hc;exact⟨nd,trivial⟩
  |gate m ks=>
   simp only[cX]at hc;split at hc
   ·rename_i c4;have c4:m=(ks.length:Int):=by simpa using c4
    obtain⟨n1,n2⟩:=eK.1 nd.2.2.2 c hc;refine⟨n1,?_⟩;cases c with
    |atom a n vs=>trivial
    |gate m' ks'=>
     exact⟨λq=>n2.1 ⟨c4,q.2⟩,λq=>by omega⟩
   ·rename_i c4;have c4:¬ m=(ks.length:Int):=by simpa using c4
    simp only[afO]at hc;subst hc;exact⟨nd,λq=>c4 q.2,λq=>by omega⟩
 ·rename_i c3;have hl:=zA (w:=false) (k:=k') hr;refine⟨by omega,by omega,by omega,eK.2 λc hc=>?_⟩;by_cases k1:k'=1
  ·subst k1;obtain⟨d,hd,hc⟩:=sS hc;have nd:=hr d hd;cases d with
   |atom a n vs=>
    simp only[cX,afO]at hc;subst hc;exact⟨nd,trivial⟩
   |gate m ks=>
    simp only[cX]at hc;split at hc
    ·rename_i c4;have c4:m=1:=by simpa using c4
     obtain⟨n1,n2⟩:=eK.1 nd.2.2.2 c hc;refine⟨n1,?_⟩;cases c with
     |atom a n vs=>trivial
     |gate m' ks'=>
      exact⟨λq=>by omega,λq=>n2.2 ⟨c4,q.2⟩⟩
    ·rename_i c4;have c4:¬ m=1:=by simpa using c4
     simp only[afO]at hc;subst hc;exact⟨nd,λq=>by omega,λq=>c4 q.2⟩
  ·rw[Dm k1]at hc⊢;refine⟨hr c hc,?_⟩;cases c with
   |atom a n vs=>trivial
   |gate m ks=>exact⟨λq=>c3 q.1,λq=>k1 q.1⟩
theorem Dn{neg:Bool}{k:Int}{cs:List Cd}(h:∀c∈cs,Cst c∨NF us l Q c):Cst (ofC neg k cs)∨NF us l Q (ofC neg k cs):=Yf h
theorem su{ks:List Tr}(h:∀t∈ks,t.n.k=9->Q t.n)(i:Nat):(dY ks i).k=9->Q (dY ks i):=by
 unfold dY;cases e:ks[i]? with
 |none=>exact λq=>absurd q (by decide)
 |some t=>exact h t (afB e)
mutual
theorem GA:∀(t:Tr) (neg:Bool),Tw us l t->(∀s∈t.subs,s.n.k=9->Q s.n)->Cst (norm (au us l) neg t)∨NF us l Q (norm (au us l) neg t)
 |.nd i n ks,neg,ty,hq=>by
  obtain⟨k0,k8,c2,c5,c6,c7,c8⟩:=ty;have hk:∀k∈ks,k.n.k=9->Q k.n:=λk hk=>hq k (by
   simp only[Tr.subs,afp];exact .inr (wJ hk (HQ k)))
  have hs:∀x∈ks,∀s∈x.subs,s.n.k=9->Q s.n:=λx hx s hs=>hq s (by
   simp only[Tr.subs,afp];exact .inr (wJ hx hs))
  unfold norm;by_cases e0:n.k=0
  ·exact .inl ⟨_,by rw[if_pos e0]⟩
  by_cases e1:n.k=1
  ·exact .inl ⟨_,by rw[if_neg e0,if_pos e1]⟩
  rw[if_neg e0,if_neg e1];by_cases e2:n.k=2
  ·rw[if_pos e2];obtain⟨t,rfl⟩:=List.length_eq_one_iff.1 (c2 e2);exact GA t (!neg) (c5 (by omega)).1 (hs t (by simp))
  rw[if_neg e2];by_cases e6:n.k=6
  ·rw[if_pos e6];exact kX ((c6 e6).sg neg) (su hk 0) (su hk 1)
  rw[if_neg e6];by_cases e7:n.k=7
  ·rw[if_pos e7];obtain⟨w1,w2⟩:=c7 e7;by_cases q:neg=false∧(dY ks 0).k=9∧(dY ks 1).k=10∧(dY ks 2).k=10
   ·rw[if_pos q];refine lA q.2.1 ?_ (su hk 0 q.2.1) _ _;obtain⟨_,_,_,x,y,hx,_,_,hn⟩:=w1;rcases hn with hn|hn
    ·omega
    ·cases x with
     |num=>exact hx
     |wd w=>exact absurd hn.1 (by simp[isNum])
     |fw w=>exact absurd hn.1 (by simp[isNum])
   ·rw[if_neg q];refine Dn λc hc=>?_
    simp only[afp,afZ,or_false]at hc;rcases hc with rfl|rfl
    ·exact kX (w1.sg neg) (su hk 0) (su hk 1)
    ·exact kX (w2.sg neg) (su hk 0) (su hk 2)
  rw[if_neg e7];by_cases e8:n.k=8
  ·rw[if_pos e8];refine Dn λc hc=>?_
   obtain⟨t,ht,rfl⟩:=afG.1 hc;exact kX ((c8 e8 t ht).sg neg) (su hk 0) (hk t (agD ht))
  rw[if_neg e8];have hn:=wm ks neg (c5 (by omega)) hs;split
  ·exact Dn hn
  split
  ·exact Dn hn
  ·exact Dn hn
theorem wm:∀(ts:List Tr) (neg:Bool),Tws us l ts->(∀x∈ts,∀s∈x.subs,s.n.k=9->Q s.n)->∀c∈gq (au us l) neg ts,Cst c∨NF us l Q c
 | [],neg,_,_,c,hc=>by simp[gq]at hc
 |t::ts,neg,ty,hq,c,hc=>by
  simp only[gq,afp]at hc;rcases hc with rfl|hc
  ·exact GA t neg ty.1 (hq t (by simp))
  ·exact wm ts neg ty.2 (λx hx=>hq x (by simp[hx])) c hc
end
mutual
theorem Mm{ns:List Nd}:∀t:Tr,IsT ns t->WF t true->(∀s∈t.subs,(cR (bS us l) s).2=0)->Tw us l t
 |.nd i n ks,⟨h1,h2,h3⟩,⟨w1,w2⟩,hc=>by
  obtain⟨k0,k12,k8,Ay,_,hlo,hhi⟩:=fH w1;have hlen:n.kids.l.length=ks.length:=by rw[h2];simp
  rw[hlen]at Ay;have k8:n.k<=8:=by simpa using k8
  have kv:6<=n.k->∀q∈ks,q.n.k=9∨q.n.k=10∨q.n.k=11:=λh q hq=>by
   have:decide (n.k<=5)=false:=by simp;omega
   rw[this]at w2;exact Pz (LC w2 q hq)
  have two:6<=n.k->∀j6,How j6->∀a∈ks,∀b∈ks,∀x y,bS us l a.n=some x->bS us l b.n=some y->aV x y=0->((j6=0∨j6=1)∨(isNum x=true∧isNum y=true))->Wt us l j6 a.n b.n:=
   λh j6 hh a ha b hb x y hx hy hag hn=>⟨hh,kv h a ha,kv h b hb,x,y,hx,hy,hag,hn⟩
  have RJ:=hc (.nd i n ks) (by simp[Tr.subs]);refine⟨k0,k8,λh=>?_,λh=>?_,λh6=>?_,λh7=>?_,λh8=>?_⟩
  ·simpa[aI,h]using Ay
  ·have e:decide (n.k<=5)=true:=by simp[h]
   rw[e]at w2;exact RL ks h3 w2 λs hs=>hc s (by simp[Tr.subs,hs])
  ·obtain⟨a,b,rfl⟩:=Td (l:=ks) (by simpa[aI,h6]using Ay);obtain⟨vs,e3,e2⟩:=Gr (.inl h6) RJ;obtain⟨x,y,rfl⟩:=Td (l:=vs) (by have:=congrArg List.length e3;simpa using this.symm);simp only[afj,afw,afH,and_true]at e3;have hh:How n.num:=by simp[eP,cH,h6]at hlo hhi;unfold How;omega
   unfold eA at e2;rw[if_pos h6]at e2;split at e2
   ·simp at e2
   ·rename_i hn;refine two (by omega) n.num hh a (by simp) b (by simp) x y e3.1 e3.2 (ru e2 y (by simp)) ?_;by_cases q0:n.num=0
    ·exact .inl (.inl q0)
    by_cases q1:n.num=1
    ·exact .inl (.inr q1)
    ·right;simp[q0,q1]at hn;exact hn
  ·obtain⟨a,b,c,rfl⟩:=Te (l:=ks) (by simpa[aI,h7]using Ay);obtain⟨vs,e3,e2⟩:=Gr (.inr (.inl h7)) RJ;obtain⟨x,y,z,rfl⟩:=Te (l:=vs) (by have:=congrArg List.length e3;simpa using this.symm);simp only[afj,afw,afH,and_true]at e3;unfold eA at e2;rw[if_neg (by omega),if_pos h7]at e2;have wo:isNum x=true∧isNum y=true∧isNum z=true:=by
    split at e2
    ·simp at e2
    ·rename_i hc;simpa using hc
   have hnn:∀q r,isNum q=true->isNum r=true->aV q r=0:=λq r hq hr=>by
    cases q<;>cases r<;>simp[isNum]at hq hr<;>rfl
   exact⟨two (by omega) 5 (by simp[How]) a (by simp) b (by simp) x y e3.1 e3.2.1 (hnn _ _ wo.1 wo.2.1) (.inr ⟨wo.1,wo.2.1⟩),
    two (by omega) 3 (by simp[How]) a (by simp) c (by simp) x z e3.1 e3.2.2 (hnn _ _ wo.1 wo.2.2) (.inr ⟨wo.1,wo.2.2⟩)⟩
  ·obtain⟨vs,e3,e2⟩:=Gr (.inr (.inr h8)) RJ;cases ks with
   |nil=>simp[aI,h8]at Ay
   |cons a r=>
    cases vs with
    |nil=>simp at e3
    |cons x ys=>
     simp only[afj,afH]at e3;unfold eA at e2;rw[if_neg (by omega),if_neg (by omega)]at e2;intro b hb;have hb:b∈r:=hb;have hm:bS us l b.n∈r.map (λt=>bS us l t.n):=afG.2 ⟨b,hb,rfl⟩;rw[e3.2]at hm;obtain⟨y,hy,ey⟩:=afG.1 hm;exact two (by omega) 0 (by simp[How]) a (by simp) b (by simp[hb]) x y e3.1 ey.symm (ru e2 y hy) (.inl (.inl rfl))
theorem RL{ns:List Nd}:∀ts:List Tr,nR ns ts->WFs ts true->(∀s∈Tr.bL ts,(cR (bS us l) s).2=0)->Tws us l ts
 | [],_,_,_=>trivial
 |t::ts,h,w,hc=>⟨Mm t h.1 w.1 λs hs=>hc s (by simp[Tr.bL,hs]),RL ts h.2 w.2 λs hs=>hc s (by simp[Tr.bL,hs])⟩
end
theorem vC{w:Bool}{k:Int}:∀{cs:List Cd},(∀c∈cs,cX w k c=[c])->bw w k cs=cs
 | [],_=>rfl
 |c::cs,h=>by rw[bw,h c (by simp),vC λx hx=>h x (by simp[hx])];rfl
theorem RO{j5:Int}{cs:List Cd}(h0:∀c∈cs,c.isT=false∧c.isF=false)(h2:2<=cs.length)(h1:1<=j5)(h3:j5<=(cs.length:Int))(hu:∀c∈cs,Unm j5 cs.length c):thr j5 cs=.gate j5 cs:=by
 have ht:gW cs=0:=by
  unfold gW;rw[agO,List.filter_eq_nil_iff];intro c hc;simp[(h0 c hc).1]
 have hr:rest cs=cs:=by
  unfold rest;rw[List.filter_eq_self];intro c hc;simp[h0 c hc]
 unfold thr;rw[ht,hr];simp only[afl,Int.sub_zero];rw[if_neg (by omega),if_neg (by omega)];split
 ·simp at h2
 ·split
  ·rename_i c;have hm:bw true j5 cs=cs:=vC λx hx=>by
    cases x with
    |atom a n vs=>rfl
    |gate m ks=>
     have:=(hu _ hx).1;have:¬ m=(ks.length:Int):=λq=>this ⟨c,q⟩
     simp[cX,this]
   rw[hm,<-c]
  ·rename_i c;have hm:bw false j5 cs=cs:=vC λx hx=>by
    cases x with
    |atom a n vs=>rfl
    |gate m ks=>
     have:=(hu _ hx).2;simp only[cX,agH,Bool.not_false,afS,agy];rw[if_neg];simp only[afC,decide_eq_true_eq];exact this
   rw[hm]
theorem xj(b:Bool):cE (cB b)=cB b:=by simp[cB,cE]
section
variable{fd:Nd->Fd}(hfd:∀n,fd (aM n)=fd n)
include hfd
theorem Am(x:Nd)(lo hi:Int):within fd (aM x) lo hi=cE (within fd x lo hi):=by
 unfold within;rw[hfd]
 repeat' split
 all_goals first|rfl|exact (xj _).symm
theorem GC(j6:Int)(x:Nd)(c:Int):bounded fd j6 (aM x) c=cE (bounded fd j6 x c):=by
 unfold bounded;simp only[Am hfd,hfd]
 repeat' split
 all_goals first|rfl|exact (xj _).symm
theorem Ol(j6:Int)(a b:Nd):cP fd j6 (aM a) (aM b)=cE (cP fd j6 a b):=by
 unfold cP;simp only[hfd]
 repeat' split
 all_goals first|rfl|exact (xj _).symm
theorem GD(j6:Int)(a b:Nd):numbers fd j6 (aM a) (aM b)=cE (numbers fd j6 a b):=by
 unfold numbers;simp only[Ol hfd];split<;>rfl
theorem GF(j6:Int)(a b:Nd):bP fd j6 (aM a) (aM b)=cE (bP fd j6 a b):=by
 unfold bP;simp only[GD hfd,GC hfd,hfd,apply_ite cE,xj];rfl
theorem Je(j6:Int)(a b:Nd):values fd j6 (aM a) (aM b)=cE (values fd j6 a b):=by
 unfold values;simp only[GF hfd,apply_ite cE];rfl
end
theorem UE{c:Cd}(h:NF us l Q c):c.isT=false∧c.isF=false:=by
 cases c with
 |gate n ks=>exact⟨rfl,rfl⟩
 |atom k n vs=>
  obtain⟨_,⟨rfl,_⟩|⟨rfl,_⟩⟩:=h<;>exact⟨rfl,rfl⟩
theorem jx(c:Cd):(cE c).isT=c.isT∧(cE c).isF=c.isF:=by
 cases c<;>exact⟨rfl,rfl⟩
theorem RP{j5:Int}{n:Nat}(c:Cd):Unm j5 n (cE c)↔Unm j5 n c:=by
 cases c with
 |atom k m vs=>exact Iff.rfl
 |gate m ks=>simp[cE,Unm,qd]
theorem A6(n:Nd):au us l (aM n)=au us l n:=rfl
mutual
theorem EZ:∀(c:Cd) (b:Nat),NF us l Q c->norm (au us l) false (cu b c)=cE c
 |.atom k num vs,b,h=>by
  obtain⟨_,⟨rfl,a,b',rfl,w,e⟩|⟨rfl,rfl,x,lo,hi,rfl,hk,hx,e⟩⟩:=h
  ·have e2:=Je (fd:=au us l) A6 num a b';rw[e]at e2;simp only[cu,norm,br,gH,dY,sg,Tr.n,ago,agM];simpa[dV]using e2
  ·have e2:=Am (fd:=au us l) A6 x lo hi;rw[e]at e2;have hk':(aM x).k=9:=hk;simp only[cu,norm,br,gH,dY,sg,Tr.n,ago,agM];have hc:True∧(aM x).k=9∧(aM (bq lo)).k=10∧(aM (bq hi)).k=10:=⟨trivial,hk',rfl,rfl⟩
   rw[if_neg (by decide),if_neg (by decide),if_neg (by decide),if_neg (by decide),if_pos trivial,if_pos hc];exact e2
 |.gate j5 ks,b,⟨h2,h1,h3,hk⟩=>by
  have hs:=Dp ks (b+1) λc hc=>(eK.1 hk c hc).1
  simp only[cu,norm,cj];rw[if_neg (by decide),if_neg (by decide),if_neg (by decide),if_neg (by decide),if_neg (by decide),if_neg (by decide),if_neg (by decide),if_neg (by decide),hs];have hm:∀c∈jl ks,∃d∈ks,c=cE d:=λc hc=>by
   rw[qd]at hc;obtain⟨d,hd,rfl⟩:=afG.1 hc;exact⟨d,hd,rfl⟩
  have hl:(jl ks).length=ks.length:=by rw[qd];simp
  exact RO (λc hc=>by
   obtain⟨d,hd,rfl⟩:=hm c hc;rw[(jx d).1,(jx d).2];exact UE (eK.1 hk d hd).1) (by omega) h1 (by omega) (λc hc=>by
   obtain⟨d,hd,rfl⟩:=hm c hc;rw[hl];exact (RP d).2 (eK.1 hk d hd).2)
theorem Dp:∀(cs:List Cd) (b:Nat),(∀c∈cs,NF us l Q c)->gq (au us l) false (nM b cs)=jl cs
 | [],_,_=>rfl
 |c::cs,b,h=>by
  simp only[nM,gq,jl];rw[EZ c b (h c (by simp)),Dp cs (b+c.size) λx hx=>h x (by simp[hx])]
end
theorem UF(fd:Nd->Fd)(bb:Bool)(b:Nat):norm fd false (cu b (cB bb))=cB bb:=by
 cases bb<;>simp[cB,cu,norm,br]
theorem Ao:∀(vs:List Nd) (b:Nat),∀s∈Tr.bL (gH b vs),∃i v,v∈vs∧s=.nd i (aM v) []
 | [],_,s,hs=>by simp[gH,Tr.bL]at hs
 |v::vs,b,s,hs=>by
  simp only[gH,Tr.bL,Tr.subs,afR,afp,afZ,or_false]at hs;rcases hs with rfl|hs
  ·exact⟨b,v,by simp,rfl⟩
  ·obtain⟨i,w,hw,e⟩:=Ao vs (b+1) s hs;exact⟨i,w,by simp[hw],e⟩
theorem Om(f:Nd->Option VT){i:Nat}{n:Nd}(h:n.k=9∨n.k=10∨n.k=11)(ks:List Tr):(cR f (.nd i n ks)).2=0:=by
 simp only[cR];rw[if_neg (by omega)]
theorem RQ{k num:Int}{vs:List Nd}(h:AtN us l Q k num vs):∀v∈vs,v.k=9∨v.k=10∨v.k=11:=by
 obtain⟨_,⟨rfl,a,b',rfl,w,e⟩|⟨rfl,rfl,x,lo,hi,rfl,hk,hx,e⟩⟩:=h
 ·intro v hv;simp only[afp,afZ,or_false]at hv;rcases hv with rfl|rfl
  ·exact w.2.1
  ·exact w.2.2.1
 ·intro v hv;simp only[afp,afZ,or_false]at hv;rcases hv with rfl|rfl|rfl
  ·exact .inl hk
  ·exact .inr (.inl rfl)
  ·exact .inr (.inl rfl)
mutual
theorem MP:∀(c:Cd) (b:Nat),NF us l Q c->∀s∈(cu b c).subs,(cR (bS us l) s).2=0
 |.atom k num vs,b,h,s,hs=>by
  simp only[cu,Tr.subs,afp]at hs;rcases hs with rfl|hs
  ·obtain⟨_,⟨rfl,a,b',rfl,w,e⟩|⟨rfl,rfl,x,lo,hi,rfl,hk,hx,e⟩⟩:=h
   ·obtain⟨hh,ka,kb,x,y,hx,hy,hag,hn⟩:=w;have hx':bS us l (aM a)=some x:=hx;have hy':bS us l (aM b')=some y:=hy;have hc:eA (br b 6 num 2) [x,y]=0:=by
     have e1:(br b 6 num 2).k=6:=rfl;have e2:(br b 6 num 2).num=num:=rfl;unfold eA;rw[if_pos e1,e2,if_neg,nJ,fW,if_pos hag,fW];rintro⟨q0,q1,q⟩;rcases hn with hn|⟨e1,e2⟩
     ·exact hn.elim q0 q1
     ·simp[e1,e2]at q
    simp only[gH,cR];rw[if_pos (.inl rfl)];simp only[eT,Tr.n,hx',hy',Io,iO];rw[if_pos hc]
   ·have hx':bS us l (aM x)=some .num:=hx;simp only[gH,cR];rw[if_pos (.inr (.inl rfl))];have hc:eA (br b 7 0 (0+1+1+1)) [.num,.num,.num]=0:=by simp[eA,br,isNum]
    simp only[eT,Tr.n,hx',Oj,UD,Io,iO];rw[if_pos hc]
  ·obtain⟨i,v,hv,rfl⟩:=Ao vs (b+1) s hs;exact Om (n:=aM v) _ (RQ h v hv) _
 |.gate j5 ks,b,⟨h2,h1,h3,hk⟩,s,hs=>by
  simp only[cu,Tr.subs,afp]at hs;rcases hs with rfl|hs
  ·have e:(cj b j5 ks).k=5:=rfl;simp only[cR,e];simp
  ·exact Jf ks (b+1) (λc hc=>(eK.1 hk c hc).1) s hs
theorem Jf:∀(cs:List Cd) (b:Nat),(∀c∈cs,NF us l Q c)->∀s∈Tr.bL (nM b cs),(cR (bS us l) s).2=0
 | [],_,_,s,hs=>by simp[nM,Tr.bL]at hs
 |c::cs,b,h,s,hs=>by
  simp only[nM,Tr.bL,afR]at hs;rcases hs with hs|hs
  ·exact MP c b (h c (by simp)) s hs
  ·exact Jf cs (b+c.size) (λx hx=>h x (by simp[hx])) s hs
end
end
section
variable(fd:Nd->Fd)
theorem eH:∀a b:List Cd,Cd.sizes (a++b)=Cd.sizes a+Cd.sizes b
 | [],b=>by simp[Cd.sizes]
 |c::a,b=>by simp[Cd.sizes,eH a b,af5]
theorem pK:∀cs:List Cd,Cd.sizes (rest cs)<=Cd.sizes cs
 | []=>afm _
 |c::cs=>by
  have:=pK cs;unfold rest at this⊢;rw[List.filter_cons];split
  ·simp only[Cd.sizes];omega
  ·simp only[Cd.sizes];omega
theorem mN(w:Bool)(k:Int):∀cs:List Cd,Cd.sizes (bw w k cs)<=Cd.sizes cs
 | []=>afm _
 |c::cs=>by
  have:=mN w k cs;have h1:Cd.sizes (cX w k c)<=c.size:=by
   cases c with
   |atom a n vs=>simp[cX,Cd.sizes]
   |gate n ks=>
    simp only[cX];split
    ·simp[Cd.size]
    ·simp[Cd.sizes]
  simp only[bw,eH,Cd.sizes];omega
theorem tu(b:Bool):(cB b).size=1:=rfl
theorem sA(k:Int)(cs:List Cd):(thr k cs).size<=1+Cd.sizes cs:=by
 have h1:=pK cs;unfold thr;split
 ·rw[tu];omega
 split
 ·rw[tu];omega
 split
 ·rename_i c hr;rw[hr]at h1;simp only[Cd.sizes]at h1;omega
 ·split
  ·have:=mN true (k-gW cs) (rest cs);simp only[Cd.size];omega
  ·have:=mN false (k-gW cs) (rest cs);simp only[Cd.size];omega
theorem Ap(x:Nd)(lo hi:Int):(within fd x lo hi).size<=4:=by
 unfold within
 repeat' split
 all_goals simp[cB,dV,Cd.size]
theorem GG(j6:Int)(x:Nd)(c:Int):(bounded fd j6 x c).size<=4:=by
 unfold bounded
 repeat' split
 all_goals first|exact Ap fd _ _ _|simp[cB,dV,Cd.size]
theorem Oo(j6:Int)(a b:Nd):(cP fd j6 a b).size<=4:=by
 rcases pM fd j6 a b with⟨c,e⟩|e
 ·rw[e,tu];omega
 ·rw[e];simp[dV,Cd.size]
theorem GH(j6:Int)(a b:Nd):(bP fd j6 a b).size<=4:=by
 unfold bP numbers
 repeat' split
 all_goals first|exact GG fd _ _ _|exact Oo fd _ _ _|simp[cB,dV,Cd.size]
theorem dX(j6:Int)(a b:Nd):(values fd j6 a b).size<=4:=by
 unfold values;split<;>exact GH fd _ _ _
theorem sI{α:Type}(f:α->Cd)(h:∀x,(f x).size<=4):∀r:List α,Cd.sizes (r.map f)<=4*r.length
 | []=>afm _
 |x::r=>by
  have:=sI f h r;have:=h x;simp only[afj,Cd.sizes,Io];omega
theorem AP:∀ks:List Tr,ks.length<=(Tr.bL ks).length
 | []=>afm _
 |t::ts=>by
  have:=AP ts;have h1:1<=t.subs.length:=by cases t;simp[Tr.subs]
  simp only[Tr.bL,afr,Io];omega
mutual
theorem zb:∀(t:Tr) (neg:Bool),(norm fd neg t).size<=9*t.subs.length
 |.nd i n ks,neg=>by
  have hk:=AP ks;have hn:=pF ks;have hl:(Tr.nd i n ks).subs.length=(Tr.bL ks).length+1:=by simp[Tr.subs]
  rw[hl];unfold norm;split
  ·rw[tu];omega
  split
  ·rw[tu];omega
  split
  ·cases ks with
   |nil=>simp only[PA,tu];omega
   |cons t ts=>
    have:=zb t (!neg);simp only[PA,Tr.bL,afr];omega
  split
  ·have:=dX fd (sg neg n.num) (dY ks 0) (dY ks 1);omega
  split
  ·split
   ·have:=Ap fd (dY ks 0) (dY ks 1).num (dY ks 2).num;omega
   ·have h1:=dX fd (sg neg 5) (dY ks 0) (dY ks 1);have h2:=dX fd (sg neg 3) (dY ks 0) (dY ks 2);unfold ofC;exact af3 (sA _ _) (by simp only[Cd.sizes];omega)
  split
  ·have h1:=sI (λt:Tr=>values fd (sg neg 0) (dY ks 0) t.n) (λt=>dX fd _ _ _) (ks.drop 1);have h2:(ks.drop 1).length<=ks.length:=by simp
   unfold ofC;exact af3 (sA _ _) (by omega)
  have hnn:=hn neg;split
  ·unfold ofC;exact af3 (sA _ _) (by omega)
  split
  ·unfold ofC;exact af3 (sA _ _) (by omega)
  ·unfold ofC;exact af3 (sA _ _) (by omega)
theorem pF:∀(ts:List Tr) (neg:Bool),Cd.sizes (gq fd neg ts)<=9*(Tr.bL ts).length
 | [],_=>afm _
 |t::ts,neg=>by
  have h1:=zb t neg;have h2:=pF ts neg;simp only[gq,Cd.sizes,Tr.bL,afr];omega
end
end
def jF(p:Po)(c:Cd):Po:={ p with nodes:=⟨false,flat 0 c⟩,root:=0 }
theorem lZ{p:Po}{c:Cd}(h:chk (jF p c)=0):Good (jF p c) (cu 0 c):=by
 obtain⟨t,g⟩:=Iw h;have h1:IsT (jF p c).nodes.l (cu 0 c):=ES c 0 (Ga _);have e:t=cu 0 c:=I3 t (cu 0 c) g.isT h1 (by
  have h2:(t.i:Int)=0:=g.root;rw[MF];omega)
 rw[<-e];exact g
def NFp(us:List Us)(l:List Sc)(Q:Nd->Prop)(c:Cd):Prop:=Cst c∨NF us l Q c
theorem RS{us:List Us}{l:List Sc}{Q:Nd->Prop}{c:Cd}(h:NFp us l Q c):∀s∈(cu 0 c).subs,(cR (bS us l) s).2=0:=by
 rcases h with⟨b,rfl⟩|h
 ·intro s hs;cases b<;>simp[cB,cu,Tr.subs,gH,Tr.bL]at hs<;>subst hs<;>simp[cR,br]
 ·exact MP c 0 h
theorem Ik{us:List Us}{l:List Sc}{Q:Nd->Prop}{c:Cd}(h:NFp us l Q c):norm (au us l) false (cu 0 c)=cE c:=by
 rcases h with⟨b,rfl⟩|h
 ·rw[UF,xj]
 ·exact EZ c 0 h
theorem Dq:∀{es:List (Int×Int)},(∀e∈es,e.2=0)->fu es=(0,0)
 | [],_=>rfl
 |e::es,h=>by rw[fu,if_pos (h e (by simp)),Dq λx hx=>h x (by simp[hx])]
theorem E1:∀{es:List (Int×Int)},(fu es).2=0->∀e∈es,e.2=0
 | [],_,e,h=>by cases h
 |x::es,h,e,he=>by
  simp only[fu]at h;split at h
  ·rename_i h0;rcases afp.1 he with rfl|he
   ·exact h0
   ·exact E1 h e he
  ·rename_i h0;exact absurd h h0
theorem lg{p:Po}{l:List Sc}{t:Tr}(h:(iy p l t).2=0):bz p l=0∧p.az.l.all (λr=>(findF p.uses.l l r).isSome)=true∧(∀s∈t.subs,(cR (bS p.uses.l l) s).2=0):=by
 unfold iy at h;split at h
 ·rename_i c;exact absurd h c
 rename_i c1;split at h
 ·simp at h
 rename_i c2;refine⟨by simpa using c1,(Bool.not_eq_false _).mp c2,λs hs=>?_⟩;rw[iG]at h;exact E1 h _ (afG.2 ⟨s,hs,rfl⟩)
theorem Oq{p:Po}{l:List Sc}(h:bz p l=0):chk p=0:=by
 unfold bz at h;split at h
 ·rename_i c;exact absurd h c
 ·rename_i c;simpa using c
theorem Ot{p:Po}{l:List Sc}{c:Cd}(h:bz p l=0)(hc:chk (jF p c)=0):bz (jF p c) l=0:=by
 have h0:=Oq h;unfold bz at h⊢;rw[h0]at h;rw[hc];exact h
theorem F8{p:Po}{l:List Sc}{t:Tr}{Q:Nd->Prop}{c:Cd}(h:(iy p l t).2=0)(hc:chk (jF p c)=0)(hn:NFp p.uses.l l Q c):iy (jF p c) l (cu 0 c)=(0,0):=by
 obtain⟨h1,h2,h3⟩:=lg h;unfold iy;rw[if_neg (by rw[Ot h1 hc];simp),if_neg (by show ¬ p.az.l.all (λr=>(findF p.uses.l l r).isSome)=false;rw[h2];simp),iG];exact Dq λe he=>by
  obtain⟨s,hs,rfl⟩:=afG.1 he;exact RS hn s hs
theorem rJ{p:Po}{l:List Sc}{t:Tr}{Q:Nd->Prop}(g:Good p t)(h:(iy p l t).2=0)(hq:∀s∈t.subs,s.n.k=9->Q s.n)(neg:Bool):NFp p.uses.l l Q (norm (au p.uses.l l) neg t):=
 GA t neg (Mm t g.isT g.wf (lg h).2.2) hq
