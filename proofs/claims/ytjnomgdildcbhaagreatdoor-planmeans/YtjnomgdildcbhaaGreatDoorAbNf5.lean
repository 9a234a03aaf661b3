/-
  The makers' small functions.
-/
import Derived.Test.YtjnomgdildcbhaaGreatDoorAb4dS1
import Derived.Test.YtjnomgdildcbhaaGreatDoorAbOrd
import Derived.Test.YtjnomgdildcbhaaGreatDoorAbPlanC
import Derived.Test.YtjnomgdildcbhaaGreatDoorAbNf
set_option linter.unusedVariables false
set_option linter.unusedSimpArgs false
set_option linter.unusedSectionVars false
namespace Go.Ab.Pn
open Go.Ab.Pol
set_option maxRecDepth 100000
set_option maxHeartbeats 2000000
theorem f142(h:Heap):(mu K).fn 142 [] h=some (.val (.agg [.lst [.agg [iV 0,.aj,iV 0]]]) h):=by
 rw[aB (KX _ _ _) Y8 rfl (by simp[TZ])];simp[TZ,KL,aa]
abbrev iG(i:Int)(f:Pol.Fd)(m:AV):AV:=.agg [iV i,.str f.name,iV f.kind,iV f.mn,iV f.mx,f.words.avS .str,m]
theorem f186(i:Int)(f:Pol.Fd)(m:AV)(h:Heap)(hw:(f.words.l.length:Int)<=1000)(hk:-2147483648<=f.mn∧f.mn<=2147483647∧-2147483648<=f.mx∧f.mx<=2147483647) :
  (mu K).fn 186 [iG i f m] h=some (.val (iV (cA f)) h):=by
 have w1:IntKind.i64.wrap ((f.words.l.length:Int)-1)=(f.words.l.length:Int)-1:=wrap64 (by omega) (by omega);have w2:IntKind.i64.wrap (f.mx-f.mn)=f.mx-f.mn:=wrap64 (by omega) (by omega);rw[aB (KX _ _ _) Zt rfl (by simp[QG])];unfold cA;by_cases c:f.kind=1
 ·simp[QG,KL,aa,c,w1]
 ·simp[QG,KL,aa,c,w2]
theorem f183(nodes:Sl Nd)(am:Loc)(r:List AV)(b:Loc)(es:List (AV×AV))(i:Nat)(x:Nd)(j:Int)(f:Pol.Fd)(m:AV)(h:Heap)(hm:m=.fG∨∃ c:Loc,m=.mp c∧c.1<h.length)(hi:i<1000000)
  (hb:hget h b=some (.box 95 false (.agg (nodes.avS Nd.av :: .mp am :: r)))) (ha:hget h am=some (.map es)) (hx:nodes.l[i]?=some x)
  (hl:fY (.st [.str,.str]) (.agg [.str x.nm,.str x.attr]) es=some (some (iG j f m))):(mu K).fn 183 [.ptr b 0,iV (i:Int)] h=some (.val (iG j f m) h):=by
 obtain⟨ne,ne2⟩:=bZ ha;obtain⟨ne3,ne4⟩:=bZ hb;have hia:=λ(q:IntKind)=>aG (av:=Nd.av) (sz:=6) (s:=nodes) (k:=q) (j:=(i:Int)) (x:=x) (by omega) (by simpa using hx) rfl
 rw[aB (KX _ _ _) Zp rfl (by simp[QE])];rcases hm with rfl |⟨c,rfl,lc⟩
 ·simp[QE,KL,aa,hget,ha,hb,ne,ne2,ne3,ne4,hia,hl,eqK,eqF,dN]
 ·have lc2:c.1<=h.length:=by omega
  simp[QE,KL,aa,hget,ha,hb,ne,ne2,ne3,ne4,hia,hl,eqK,eqF,dN,lc,lc2]
end Go.Ab.Pn
/-
  The makers' small functions: a distance that is added.
-/
namespace Go.Ab.Pn
open Go.Ab.Pol
set_option maxRecDepth 100000
set_option maxHeartbeats 2000000
def ptB:List Pt->Blk
 | []=>.arr 0 0 false []
 |x :: r=>.arr 56 5 false ((x :: r).map Pt.av)
theorem pU(l:List Pt):∃ t z,ptB l=.arr t z false (l.map Pt.av)∧(z=0∨t=56∧z=5):=by
 cases l with
 |nil=>exact⟨0,0,rfl,.inl rfl⟩
 |cons i s=>exact⟨56,5,rfl,.inr ⟨rfl,rfl⟩⟩
theorem F9(l:List Pt)(x:Pt):ptB (l++[x])=.arr 56 5 false (l.map Pt.av++[x.av]):=by
 cases l with
 |nil=>rfl
 |cons j s=>simp[ptB]
/- The frame of the function that makes a condition's atoms. -/
abbrev AtF(x:Nd)(p:AV)(y:AV)(q:AV)(l:List Pt)(h:Heap):Heap:=[.box 90 false x.av,.box 102 false p,.box 90 false y,.box 102 false q,ptB l,.box 31 false (.own (h.length,4) l.length)] :: h
theorem f185(x:Nd)(y:AV)(i j:Int)(f g:Pol.Fd)(m m':AV)(l:List Pt)(hl:l.length<=10)(lo hi:Int)(h:Heap) :
  (mu K).fn 185 [iV lo,iV hi,.ptr (h.length,5) 0,.ptr (h.length,1) 0,.ptr (h.length,3) 0] (AtF x (iG i f m) y (iG j g m') l h)=some (.val (.tup []) (AtF x (iG i f m) y (iG j g m') (l++gu i j lo hi) h)):=by
 obtain⟨ot,oz,ho,hz⟩:=pU l;have ho2:=F9 l ⟨5,i,j,lo,hi⟩;have r1:(l.length+1)*40<=room:=by unfold room;omega
 have r2:l.length+1<=room:=by unfold room;omega
 have n1:(h.length=h.length+1)=False:=eq_false (by omega);rw[aB (KX _ _ _) Zr rfl (by simp[QF])];unfold gu;by_cases c:lo<=hi
 ·simp[QF,KL,aa,c,ho,ho2,hz,r1,r2,n1,AtF,hget,aR]
 ·simp[QF,KL,aa,c,n1,AtF,hget,aR]
end Go.Ab.Pn
/-
  Tidy policies: the nodes that are reached, numbered anew.
-/
namespace Go.Ab.Pol
/- adN numbers. -/
def Nd.mv(r:Nat->Nat)(n:Nd):Nd:={ n with kids:=⟨false,n.kids.l.map λk=>((r k.toNat:Nat):Int)⟩ }
/- Parts of a tree. -/
mutual
theorem FN:∀ {t:Tr},∀ s∈t.subs,s.pre.Sublist t.pre
 |.nd i n ks,s,hs=>by
  simp only[Tr.subs,adY]at hs;rcases hs with rfl |hs
  ·exact List.Sublist.refl _
  ·exact (Dr s hs).cons _
theorem Dr:∀ {ts:List Tr},∀ s∈Tr.br ts,s.pre.Sublist (Tr.dJ ts)
 | [],s,hs=>by simp[Tr.br]at hs
 |t :: ts,s,hs=>by
  simp only[Tr.br,aep]at hs;simp only[Tr.dJ];rcases hs with hs |hs
  ·exact (FN s hs).trans (List.sublist_append_left _ _)
  ·exact (Dr s hs).trans (List.sublist_append_right _ _)
end
theorem Wh{p:Po}{t:Tr}(g:Good p t):∀ j∈t.pre,j<p.nodes.l.length:=by
 intro j hj;rw[mA]at hj;obtain⟨s,hs,rfl⟩:=aeg.1 hj;have:=jt g.isT s hs;cases s with
 |nd i n ks=>exact (adW.1 this.1).1
theorem wU:∀ (n:Nat) (l:List Nat),l.Nodup->(∀ j∈l,j<n)->l.length<=n
 | 0,l,_,h=>by
  cases l with
  |nil=>simp
  |cons a l=>exact absurd (h a (by simp)) (by omega)
 |n+1,l,hn,hl=>by
  by_cases hm:n∈l
  ·have:=wU n (l.erase n) (hn.erase n) (λx hx=>by
    have a:=hl x (List.mem_of_mem_erase hx);have b:x≠n:=λe=>by
     rw[e]at hx;exact (hn.not_mem_erase) hx
    omega)
   rw[afM hm]at this;omega
  ·have:=wU n l hn (λx hx=>by
    have a:=hl x hx;have b:x≠n:=λe=>hm (by rw[<-e];exact hx)
    omega)
   omega
theorem BS:∀ (n:Nat) (l:List Nat),l.Nodup->(∀ j∈l,j<n)->l.length=n->∀ j,j<n->j∈l
 | 0,_,_,_,_,j,hj=>by omega
 |n+1,l,hn,hl,hlen,j,hj=>by
  by_cases hm:n∈l
  ·have h1:=BS n (l.erase n) (hn.erase n) (λx hx=>by
    have a:=hl x (List.mem_of_mem_erase hx);have b:x≠n:=λe=>by
     rw[e]at hx;exact (hn.not_mem_erase) hx
    omega) (by rw[afM hm];omega)
   by_cases e:j=n
   ·rw[e];exact hm
   ·exact List.mem_of_mem_erase (h1 j (by omega))
  ·exfalso;have h2:∀ x∈l,x<n:=λx hx=>by
    have a:=hl x hx;have b:x≠n:=λe=>hm (by rw[<-e];exact hx)
    omega
   have:=wU n l hn h2;omega
theorem NN{p:Po}{t:Tr}(g:Good p t){i:Nat}(hi:i<p.nodes.l.length):∃ s∈t.subs,s.i=i:=by
 have:=BS _ t.pre g.nodup (Wh g) g.all i hi;rw[mA]at this;obtain⟨s,hs,e⟩:=aeg.1 this;exact⟨s,hs,e⟩
end Go.Ab.Pol
/-
  Policies that are equal apart from the numbers of their nodes.
-/
namespace Go.Ab.Pol
end Go.Ab.Pol
/-
  ab3 twice;a policy that is well-formed can be adz.
-/
namespace Go.Ab.Pol
theorem zy{ns:List Nd}{t:Tr}(h:IsT ns t):ns[t.i]?=some t.n∧t.n.kids.l=t.ks.map λk=>(k.i:Int):=by
 cases t with
 |nd i n ks=>exact⟨h.1,h.2.1⟩
end Go.Ab.Pol
/-
  The references of a policy.
-/
namespace Go.Ab.Pol
def oK(acc:List Rf)(n:Nd):List Rf:=if n.k=9 then (if (⟨n.nm,n.attr⟩:Rf)∈acc then acc else acc++[⟨n.nm,n.attr⟩]) else acc
def lF(ns:List Nd)(acc:List Rf)(x:Int):List Rf:=match ns[x.toNat]? with
 |some n=>oK acc n
 |none=>acc
def jA(ns:List Nd)(xs:List Int):List Rf:=xs.foldl (lF ns) []
def Pv(t:Tr):List Rf:=t.subs.foldl (λacc s=>oK acc s.n) []
def bW(p:Po)(t:Tr):List Rf:=jA p.nodes.l (ints t.pre)
theorem Pw(acc:List Rf)(n:Nd):(oK acc n).length<=acc.length+1:=by
 unfold oK
 repeat' split
 all_goals simp
theorem Mn(ns:List Nd)(acc:List Rf)(x:Int):(lF ns acc x).length<=acc.length+1:=by
 unfold lF;split
 ·exact Pw _ _
 ·omega
theorem Ds(ns:List Nd):∀ (xs:List Int) (acc:List Rf),(xs.foldl (lF ns) acc).length<=acc.length+xs.length
 | [],acc=>by simp
 |x :: xs,acc=>by
  have h1:=Ds ns xs (lF ns acc x);have h2:=Mn ns acc x;simp only[ae4,ad1];omega
theorem AU(ns:List Nd)(xs:List Int):(jA ns xs).length<=xs.length:=by simpa[jA]using Ds ns xs []
theorem CW(ns:List Nd)(xs:List Int)(x:Int):jA ns (xs++[x])=lF ns (jA ns xs) x:=by simp[jA]
theorem Dt{ns:List Nd}:∀ (l:List Tr) (acc:List Rf),(∀ s∈l,IsT ns s)->(ints (l.map Tr.i)).foldl (lF ns) acc=l.foldl (λacc s=>oK acc s.n) acc
 | [],acc,_=>rfl
 |s :: l,acc,h=>by
  have h1:=(zy (h s (by simp))).1;simp only[Io,ae4];have:lF ns acc (s.i:Int)=oK acc s.n:=by simp[lF,h1]
  rw[this];exact Dt l _ λu hu=>h u (by simp[hu])
theorem JP{p:Po}{t:Tr}(h:IsT p.nodes.l t):bW p t=Pv t:=by
 unfold bW jA Pv;rw[mA];exact Dt t.subs [] (jt h)
/- What is read is enough. -/
theorem Px{a b:Bool}{l m:List AV}(h:lv a l=lv b m):l=m:=by
 cases l<;>cases m<;>cases a<;>cases b<;>simp_all[lv]
theorem Py:∀ {l m:List Int},l.map iV=m.map iV->l=m
 | [],[],_=>rfl
 |x :: l,y :: m,h=>by
  simp only[Io,aen,AV.int.injEq,true_and]at h;rw[h.1,Py h.2]
 | [],_ :: _,h=>by simp at h
 |_ :: _,[],h=>by simp at h
def Pz(x y:Nd):Prop:=x.k=y.k∧x.nm=y.nm∧x.attr=y.attr∧x.kids.l=y.kids.l
theorem Wi{x y:Nd}(h:x.av=y.av):Pz x y:=by
 simp only[Nd.av,Nd.cs,AV.agg.injEq,aen,AV.int.injEq,AV.str.injEq,true_and,and_true]at h;obtain⟨h1,_,h3,h4,h5,_⟩:=h;exact⟨h1,h3,h4,Py (Px h5)⟩
theorem PA:∀ {ns ms:List Nd},ns.map Nd.av=ms.map Nd.av->∀ (i:Nat) (x:Nd),ns[i]?=some x->∃ y,ms[i]?=some y∧Pz x y
 | [],[],_,i,x,h=>by simp at h
 |a :: ns,b :: ms,e,i,x,h=>by
  simp only[Io,aen]at e;cases i with
  |zero=>
   simp only[ae0,fS]at h;subst h;exact⟨b,rfl,Wi e.1⟩
  |succ i=>
   simp only[afF]at h ⊢;exact PA e.2 i x h
 | [],_ :: _,e,_,_,_=>by simp at e
 |_ :: _,[],e,_,_,_=>by simp at e
mutual
theorem KB{ns ms:List Nd}(he:∀ (i:Nat) (x:Nd),ns[i]?=some x->∃ y,ms[i]?=some y∧Pz x y):∀ (t u:Tr),IsT ns t->IsT ms u->t.i=u.i->t.pre=u.pre
 |.nd i n ks,.nd j m js,h1,h2,e=>by
  simp only[Tr.i]at e;subst e;obtain⟨a1,a2,a3⟩:=h1;obtain⟨b1,b2,b3⟩:=h2;obtain⟨y,c1,c2⟩:=he i n a1;rw[b1]at c1;injection c1 with c1
  subst c1;simp only[Tr.pre];rw[GW he ks js a3 b3 (by rw[<-a2,<-b2,c2.2.2.2])]
theorem GW{ns ms:List Nd}(he:∀ (i:Nat) (x:Nd),ns[i]?=some x->∃ y,ms[i]?=some y∧Pz x y):∀ (ts us:List Tr),kY ns ts->kY ms us->ts.map (λt=>(t.i:Int))=us.map (λt=>(t.i:Int))->Tr.dJ ts=Tr.dJ us
 | [],[],_,_,_=>rfl
 |t :: ts,u :: us,h1,h2,e=>by
  simp only[Io,aen]at e;simp only[Tr.dJ];rw[KB he t u h1.1 h2.1 (by omega),GW he ts us h1.2 h2.2 e.2]
 | [],_ :: _,_,_,e=>by simp at e
 |_ :: _,[],_,_,e=>by simp at e
end
theorem PB{ns ms:List Nd}(hl:ns.length=ms.length)(he:∀ (i:Nat) (x:Nd),ns[i]?=some x->∃ y,ms[i]?=some y∧Pz x y)(acc:List Rf)(x:Int):lF ns acc x=lF ms acc x:=by
 unfold lF;cases h:ns[x.toNat]? with
 |none=>
  rw[List.getElem?_eq_none_iff]at h;rw[aeO (by omega)]
 |some n=>
  obtain⟨y,h1,h2,h3,h4,_⟩:=he _ _ h;rw[h1];simp only[oK,h2,h3,h4]
theorem JC{p q:Po}{t u:Tr}(ht:IsT p.nodes.l t)(hu:IsT q.nodes.l u)(hp:(t.i:Int)=p.root)(hq:(u.i:Int)=q.root)(h:p.av=q.av):bW p t=bW q u:=by
 simp only[Po.av,Po.cs,AV.agg.injEq,aen,AV.int.injEq,AV.str.injEq,true_and,and_true]at h;obtain⟨_,_,_,h4,h5,_⟩:=h;have e:=Px h4;have he:=PA e;have hl:p.nodes.l.length=q.nodes.l.length:=by have:=congrArg List.length e;simpa using this
 unfold bW jA;rw[KB he t u ht hu (by omega)]
 congr 1
 funext acc x
 exact PB hl he acc x
end Go.Ab.Pol
/-
  The normal form of a policy: its numbers, its references;it is tidy.
-/
namespace Go.Ab.Pol
theorem jZ:∀ (vs:List Nd) (b:Nat),Tr.dJ (cF b vs)=List.range' b vs.length
 | [],_=>rfl
 |v :: vs,b=>by
  simp only[cF,Tr.dJ,Tr.pre,ad1];rw[jZ vs (b+1),afr];rfl
mutual
theorem qI:∀ (c:Cd) (b:Nat),(aV b c).pre=List.range' b c.size
 |.atom k num vs,b=>by
  simp only[aV,Tr.pre,Cd.size];rw[jZ,afr]
 |.gate need ks,b=>by
  simp only[aV,Tr.pre,Cd.size];rw[kg ks,afr]
theorem kg:∀ (cs:List Cd) (b:Nat),Tr.dJ (cX b cs)=List.range' b (Cd.sizes cs)
 | [],_=>rfl
 |c :: cs,b=>by
  simp only[cX,Tr.dJ,Cd.sizes];rw[qI c b,kg cs,List.range'_append_1]
end
theorem PC{acc:List Rf}{n:Nd}{r:Rf}:r∈oK acc n↔r∈acc∨(n.k=9∧r=⟨n.nm,n.attr⟩):=by
 unfold oK;by_cases h:n.k=9
 ·rw[if_pos h];split
  ·rename_i hm;constructor
   ·exact .inl
   ·rintro (h1 |⟨_,rfl⟩)
    ·exact h1
    ·exact hm
  ·simp[h]
 ·rw[if_neg h];simp[h]
theorem Du{r:Rf}:∀ (l:List Tr) (acc:List Rf),r∈l.foldl (λacc s=>oK acc s.n) acc↔r∈acc∨∃ s∈l,s.n.k=9∧r=⟨s.n.nm,s.n.attr⟩
 | [],acc=>by simp
 |x :: l,acc=>by
  rw[ae4,Du l,PC];constructor
  ·rintro ((h |h) |⟨s,hs,h⟩)
   ·exact .inl h
   ·exact .inr ⟨x,by simp,h⟩
   ·exact .inr ⟨s,by simp[hs],h⟩
  ·rintro (h |⟨s,hs,h⟩)
   ·exact .inl (.inl h)
   ·rcases adY.1 hs with rfl |hs
    ·exact .inl (.inr h)
    ·exact .inr ⟨s,hs,h⟩
theorem BU{p:Po}{t:Tr}(h:IsT p.nodes.l t){r:Rf}:r∈bW p t↔∃ s∈t.subs,s.n.k=9∧r=⟨s.n.nm,s.n.attr⟩:=by
 rw[JP h];unfold Pv;rw[Du];simp
def sU(p:Po)(t:Tr)(v:Nd):Prop:=(⟨v.nm,v.attr⟩:Rf)∈bW p t
theorem tZ{p:Po}{t:Tr}(h:IsT p.nodes.l t):∀ s∈t.subs,s.n.k=9->sU p t s.n:=λs hs hk=>(BU h).2 ⟨s,hs,hk,rfl⟩
theorem Mo{us:List Us}{l:List Sc}{Q:Nd->Prop}{c:Cd}(h:NF us l Q c):∀ s∈(aV 0 c).subs,Shp Q s:=GV c 0 h
theorem N6{p q:Po}{t:Tr}{us:List Us}{l:List Sc}{c:Cd}(hq:IsT q.nodes.l (aV 0 c))(h:NFp us l (sU p t) c):∀ r∈bW q (aV 0 c),r∈bW p t:=λr hr=>by
 obtain⟨s,hs,hk,rfl⟩:=(BU hq).1 hr;rcases h with⟨b,rfl⟩ |h
 ·cases b<;>simp[cB,aV,Tr.subs,cF,Tr.br]at hs<;>subst hs<;>simp[Tr.n,bC]at hk
 ·obtain⟨v,hv,e⟩:=(Mo h s hs).2.2 hk;rw[e];exact hv
end Go.Ab.Pol
/-
  The normal form of a policy PD what the policy PD.
-/
namespace Go.Ab.Pol
mutual
theorem FV{us:List Us}{l:List Sc}{Q:Nd->Prop}:∀ c:Cd,NF us l Q c->Ku c
 |.atom k num vs,h=>by
  rcases h.2 with⟨rfl,a,b,rfl,_⟩ |⟨rfl,_,x,lo,hi,rfl,_⟩
  ·exact .inr (.inr (.inl ⟨rfl,rfl⟩))
  ·exact .inr (.inr (.inr ⟨rfl,rfl⟩))
 |.gate need ks,h=>PE ks h.2.2.2
theorem PE{us:List Us}{l:List Sc}{Q:Nd->Prop}{need:Int}{n:Nat}:∀ cs:List Cd,NFs us l Q need n cs->Kv cs
 | [],_=>trivial
 |c :: cs,h=>⟨FV c h.1,PE cs h.2.2⟩
end
theorem Wj{us:List Us}{l:List Sc}{Q:Nd->Prop}{c:Cd}(h:NFp us l Q c):Ku c:=by
 rcases h with⟨b,rfl⟩ |h
 ·cases b
  ·exact .inr (.inl ⟨rfl,rfl⟩)
  ·exact .inl ⟨rfl,rfl⟩
 ·exact FV c h
theorem HQ{us:List Us}{l:List Sc}{Q:Nd->Prop}{vl:Nd->Vl}(V:lU (ak us l) vl)(hv:∀ v,vl (aP v)=vl v){t:Tr}(ty:Ty (ak us l) t){neg:Bool}(hn:NFp us l Q (norm (ak us l) neg t)) :
  truth vl (aV 0 (norm (ak us l) neg t))=(truth vl t != neg):=by
 rw[Dm hv _ 0 (Wj hn),mF V t neg ty]
end Go.Ab.Pol
/-
  What a normal form's values and nodes are made of.
-/
namespace Go.Ab.Pol
section
variable(P:Nd->Prop)
mutual
def VsP:Cd->Prop
 |.atom _ _ vs=>vs.length<=3∧∀ v∈vs,P v
 |.gate _ ks=>Fa ks
def Fa:List Cd->Prop
 | []=>True
 |c :: cs=>VsP c∧Fa cs
end
end
section
variable{P:Nd->Prop}
theorem zF:∀ {cs:List Cd},Fa P cs↔∀ c∈cs,VsP P c
 | []=>by simp[Fa]
 |c :: cs=>by simp[Fa,zF (cs:=cs)]
theorem rQ(b:Bool):VsP P (cB b):=⟨by simp,λv h=>by cases h⟩
theorem EM{how:Int}{a b:Nd}(ha:P a)(hb:P b):VsP P (dL how a b):=⟨by simp,λv h=>by
 simp only[adY,aeA,or_false]at h;rcases h with rfl |rfl
 ·exact ha
 ·exact hb⟩
variable{fd:Nd->Fd}(hn:∀ n,P (bw n))
include hn
theorem Dv{x:Nd}(hx:P x)(lo hi:Int):VsP P (within fd x lo hi):=by
 unfold within;split
 ·exact rQ _
 split
 ·exact rQ _
 split
 ·exact EM hx (hn _)
 ·refine⟨by simp,λv h=>?_⟩;simp only[adY,aeA,or_false]at h;rcases h with rfl |rfl |rfl
  ·exact hx
  ·exact hn _
  ·exact hn _
theorem IM{how:Int}{x:Nd}(hx:P x)(c:Int):VsP P (bounded fd how x c):=by
 unfold bounded
 repeat' split
 all_goals first |exact Dv hn hx _ _ |exact rQ _ |exact EM hx (hn _)
omit hn in
theorem KC{how:Int}{a b:Nd}(ha:P a)(hb:P b):VsP P (bH fd how a b):=by
 rcases oc fd how a b with⟨c,e⟩ |e
 ·rw[e];exact rQ _
 ·rw[e];exact EM ha hb
theorem BV{how:Int}{a b:Nd}(ha:P a)(hb:P b):VsP P (bE fd how a b):=by
 unfold bE numbers
 repeat' split
 all_goals first |exact IM hn ha _ |exact KC ha hb |exact KC hb ha |exact rQ _ |exact EM ha hb
theorem ru{how:Int}{a b:Nd}(ha:P a)(hb:P b):VsP P (values fd how a b):=by
 unfold values;split
 ·exact BV hn hb ha
 ·exact BV hn ha hb
omit hn in
theorem GX{w:Bool}{k:Int}{cs:List Cd}(h:∀ c∈cs,VsP P c):∀ c∈aY w k cs,VsP P c:=λc hc=>by
 obtain⟨d,hd,h1⟩:=qZ hc;have h2:=h d hd;cases d with
 |atom a n vs=>
  simp only[cE,aed]at h1;subst h1;exact h2
 |gate n ks=>
  simp only[cE]at h1;split at h1
  ·exact zF.1 h2 c h1
  ·simp only[aed]at h1;subst h1;exact h2
omit hn in
theorem BW{k:Int}{cs:List Cd}(h:∀ c∈cs,VsP P c):VsP P (thr k cs):=by
 have hr:∀ c∈rest cs,VsP P c:=λc hc=>h c (uw hc).1
 unfold thr;split
 ·exact rQ _
 split
 ·exact rQ _
 split
 ·rename_i c e;exact hr c (by rw[e];simp)
 ·split
  ·exact zF.2 (GX hr)
  ·exact zF.2 (GX hr)
theorem qo{ks:List Tr}(h:∀ t∈ks,P t.n)(i:Nat):P (bG ks i):=by
 unfold bG;cases e:ks[i]? with
 |none=>exact hn 0
 |some t=>exact h t (aee e)
mutual
theorem zu:∀ (t:Tr) (neg:Bool),(∀ s∈t.subs,P s.n)->VsP P (norm fd neg t)
 |.nd i n ks,neg,h=>by
  have hk:∀ t∈ks,P t.n:=λt ht=>h t (by
   simp only[Tr.subs,adY];exact .inr (uU ht (GP t)))
  have hs:∀ s∈Tr.br ks,P s.n:=λs hs=>h s (by simp only[Tr.subs,adY];exact .inr hs)
  have ih:=GY ks neg hs;unfold norm;split
  ·exact rQ _
  split
  ·exact rQ _
  split
  ·cases ks with
   |nil=>exact rQ _
   |cons t ts=>exact zu t (!neg) λs q=>hs s (by simp only[Tr.br,aep];exact .inl q)
  split
  ·exact ru hn (qo hn hk 0) (qo hn hk 1)
  split
  ·split
   ·exact Dv hn (qo hn hk 0) _ _
   ·exact BW λc hc=>by
     simp only[adY,aeA,or_false]at hc;rcases hc with rfl |rfl
     ·exact ru hn (qo hn hk 0) (qo hn hk 1)
     ·exact ru hn (qo hn hk 0) (qo hn hk 2)
  split
  ·exact BW λc hc=>by
    obtain⟨t,ht,rfl⟩:=aeg.1 hc;exact ru hn (qo hn hk 0) (hk t (List.mem_of_mem_drop ht))
  split
  ·exact BW ih
  split
  ·exact BW ih
  ·exact BW ih
theorem GY:∀ (ts:List Tr) (neg:Bool),(∀ s∈Tr.br ts,P s.n)->∀ c∈gh fd neg ts,VsP P c
 | [],_,_,c,hc=>by simp[gh]at hc
 |t :: ts,neg,h,c,hc=>by
  simp only[gh,adY]at hc;rcases hc with rfl |hc
  ·exact zu t neg λs hs=>h s (by simp only[Tr.br,aep];exact .inl hs)
  ·exact GY ts neg (λs hs=>h s (by simp only[Tr.br,aep];exact .inr hs)) c hc
end
end
theorem bU:∀ (cs:List Cd) (b:Nat),(starts b cs).length=cs.length
 | [],_=>rfl
 |c :: cs,b=>by simp[starts,bU cs]
theorem dz:∀ cs:List Cd,cs.length<=Cd.sizes cs
 | []=>adX _
 |c :: cs=>by
  have:=dz cs;have h1:1<=c.size:=by cases c<;>simp[Cd.size]
  simp only[ad1,Cd.sizes];omega
mutual
theorem JZ{P:Nd->Prop}:∀ (c:Cd) (b:Nat),VsP P c->∀ n∈flat b c,(∃ v,P v∧n=aP v)∨(n.nm=[]∧n.attr=[]∧n.kids.l.length<=c.size∧n.pos=0)
 |.atom k num vs,b,h,n,hn=>by
  simp only[flat,adY,aeg]at hn;rcases hn with rfl |⟨v,hv,rfl⟩
  ·right;refine⟨rfl,rfl,?_,rfl⟩;simp[bC,upI,Cd.size]
  ·exact .inl ⟨v,h.2 v hv,rfl⟩
 |.gate need ks,b,h,n,hn=>by
  simp only[flat,adY]at hn;rcases hn with rfl |hn
  ·right;refine⟨rfl,rfl,?_,rfl⟩;have:=dz ks;simp only[cV,bU,Cd.size];omega
  ·rcases GZ ks (b+1) h n hn with q |⟨q1,q2,q3,q4⟩
   ·exact .inl q
   ·exact .inr ⟨q1,q2,by simp only[Cd.size];omega,q4⟩
theorem GZ{P:Nd->Prop}:∀ (cs:List Cd) (b:Nat),Fa P cs->∀ n∈fJ b cs,(∃ v,P v∧n=aP v)∨(n.nm=[]∧n.attr=[]∧n.kids.l.length<=Cd.sizes cs∧n.pos=0)
 | [],_,_,n,hn=>by simp[fJ]at hn
 |c :: cs,b,h,n,hn=>by
  simp only[fJ,aep]at hn;rcases hn with hn |hn
  ·rcases JZ c b h.1 n hn with q |⟨q1,q2,q3,q4⟩
   ·exact .inl q
   ·exact .inr ⟨q1,q2,by simp only[Cd.sizes];omega,q4⟩
  ·rcases GZ cs _ h.2 n hn with q |⟨q1,q2,q3,q4⟩
   ·exact .inl q
   ·exact .inr ⟨q1,q2,by simp only[Cd.sizes];omega,q4⟩
end
end Go.Ab.Pol
