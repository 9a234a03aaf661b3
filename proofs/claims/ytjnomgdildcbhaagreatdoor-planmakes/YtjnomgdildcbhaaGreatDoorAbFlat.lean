/-
  Atoms: the reference's check, what they say, their widths.
-/
import Derived.Test.YtjnomgdildcbhaaGreatDoorAb4dS2
import Derived.Test.YtjnomgdildcbhaaGreatDoorAb4dP16
set_option linter.all false
set_option maxRecDepth 100000
set_option maxHeartbeats 4000000
namespace Go.Ab.Pn
open Go.Ab.Pol
section
variable{h:Heap}
end
end Go.Ab.Pn
namespace Go.Ab.Pol
theorem Gr{f:Nd->Option VT}{i:Nat}{n:Nd}{ks:List Tr}(hk:n.k=6∨n.k=7∨n.k=8)(h:(cR f (.nd i n ks)).2=0):∃vs,ks.map (λt=>f t.n)=vs.map some∧eA n vs=0:=by
 simp only[cR]at h;rw[if_pos hk]at h;cases e:eT f ks with
 |inl k=>rw[e]at h;simp at h
 |inr vs=>
  rw[e]at h;simp only at h;by_cases c:eA n vs=0
  ·exact⟨vs,nT e,c⟩
  ·rw[if_neg c]at h;exact absurd h c
theorem Td{α:Type}{l:List α}(h:l.length=2):∃a b,l=[a,b]:=by
 match l,h with
 | [a,b],_=>exact⟨a,b,rfl⟩
theorem Te{α:Type}{l:List α}(h:l.length=3):∃a b c,l=[a,b,c]:=by
 match l,h with
 | [a,b,c],_=>exact⟨a,b,c,rfl⟩
def aM(v:Nd):Nd:=⟨v.k,v.num,v.nm,v.attr,⟨true,[]⟩,0⟩
def upI(b n:Nat):List Int:=(List.range n).map λj=>((b+j:Nat):Int)
mutual
def Cd.size:Cd->Nat
 |.atom _ _ vs=>vs.length+1
 |.gate _ ks=>Cd.sizes ks+1
def Cd.sizes:List Cd->Nat
 | []=>0
 |c::cs=>c.size+Cd.sizes cs
end
def starts:Nat->List Cd->List Int
 |_,[]=>[]
 |b,c::cs=>(b:Int)::starts (b+c.size) cs
def br(b:Nat)(k num:Int)(n:Nat):Nd:=⟨k,num,[],[],⟨true,upI (b+1) n⟩,0⟩
def cj(b:Nat)(j5:Int)(ks:List Cd):Nd:=⟨5,j5,[],[],⟨true,starts (b+1) ks⟩,0⟩
mutual
def flat:Nat->Cd->List Nd
 |b,.atom k num vs=>br b k num vs.length::vs.map aM
 |b,.gate j5 ks=>cj b j5 ks::gJ (b+1) ks
def gJ:Nat->List Cd->List Nd
 |_,[]=>[]
 |b,c::cs=>flat b c++gJ (b+c.size) cs
end
mutual
theorem lY:∀(b:Nat) (c:Cd),(flat b c).length=c.size
 |b,.atom k num vs=>by simp[flat,Cd.size]
 |b,.gate j5 ks=>by simp[flat,Cd.size,za (b+1) ks]
theorem za:∀(b:Nat) (cs:List Cd),(gJ b cs).length=Cd.sizes cs
 |_,[]=>rfl
 |b,c::cs=>by simp[gJ,Cd.sizes,lY b c,za (b+c.size) cs]
end
def gH:Nat->List Nd->List Tr
 |_,[]=>[]
 |b,v::vs=>.nd b (aM v) []::gH (b+1) vs
mutual
def cu:Nat->Cd->Tr
 |b,.atom k num vs=>.nd b (br b k num vs.length) (gH (b+1) vs)
 |b,.gate j5 ks=>.nd b (cj b j5 ks) (nM (b+1) ks)
def nM:Nat->List Cd->List Tr
 |_,[]=>[]
 |b,c::cs=>cu b c::nM (b+c.size) cs
end
theorem MF(b:Nat)(c:Cd):(cu b c).i=b:=by cases c<;>rfl
theorem I1:∀(vs:List Nd) (b:Nat),(gH b vs).map (λt=>(t.i:Int))=upI b vs.length
 | [],b=>rfl
 |v::vs,b=>by
  rw[gH,afj,I1 vs (b+1),Io];simp only[upI,List.range_succ_eq_map,afj,af0,Tr.i]
  congr 1
  apply agY;intro j _;simp only[Function.comp];omega
theorem MG:∀(cs:List Cd) (b:Nat),(nM b cs).map (λt=>(t.i:Int))=starts b cs
 | [],b=>rfl
 |c::cs,b=>by rw[nM,afj,MG cs,starts,MF]
def At(ns:List Nd)(b:Nat)(l:List Nd):Prop:=∀j n,l[j]?=some n->ns[b+j]?=some n
theorem gA{ns:List Nd}{b:Nat}{n:Nd}{l:List Nd}(h:At ns b (n::l)):ns[b]?=some n∧At ns (b+1) l:=by
 refine⟨by simpa using h 0 n rfl,λj m hj=>?_⟩;have:=h (j+1) m (by simpa using hj);rwa[show b+(j+1)=b+1+j by omega]at this
theorem JX{ns:List Nd}{b:Nat}{l m:List Nd}(h:At ns b (l++m)):At ns b l∧At ns (b+l.length) m:=by
 refine⟨λj n hj=>h j n ?_,λj n hj=>?_⟩
 ·rw[afF (aft.1 hj).1];exact hj
 ·have:=h (l.length+j) n (by rw[afT (by omega)];simpa using hj);rwa[<-Nat.add_assoc]at this
theorem C9{ns:List Nd}:∀(vs:List Nd) (b:Nat),At ns b (vs.map aM)->nR ns (gH b vs)
 | [],_,_=>trivial
 |v::vs,b,h=>by
  obtain⟨h1,h2⟩:=gA h;exact⟨⟨h1,rfl,trivial⟩,C9 vs (b+1) h2⟩
mutual
theorem ES{ns:List Nd}:∀(c:Cd) (b:Nat),At ns b (flat b c)->IsT ns (cu b c)
 |.atom k num vs,b,h=>by
  obtain⟨h1,h2⟩:=gA h;exact⟨h1,(I1 vs (b+1)).symm,C9 vs (b+1) h2⟩
 |.gate j5 ks,b,h=>by
  obtain⟨h1,h2⟩:=gA h;exact⟨h1,(MG ks (b+1)).symm,Da ks (b+1) h2⟩
theorem Da{ns:List Nd}:∀(cs:List Cd) (b:Nat),At ns b (gJ b cs)->nR ns (nM b cs)
 | [],_,_=>trivial
 |c::cs,b,h=>by
  obtain⟨h1,h2⟩:=JX h;rw[lY]at h2;exact⟨ES c b h1,Da cs (b+c.size) h2⟩
end
theorem Ga(l:List Nd):At l 0 l:=λj n h=>by simpa using h
mutual
theorem I3{ns:List Nd}:∀(t s:Tr),IsT ns t->IsT ns s->t.i=s.i->t=s
 |.nd i n ks,.nd j m js,⟨a1,a2,a3⟩,⟨b1,b2,b3⟩,e=>by
  simp only[Tr.i]at e;subst e;rw[a1]at b1;injection b1 with b1
  subst b1;rw[ET ks js a3 b3 (by rw[<-a2,<-b2])]
theorem ET{ns:List Nd}:∀(ts ss:List Tr),nR ns ts->nR ns ss->ts.map (λt=>(t.i:Int))=ss.map (λt=>(t.i:Int))->ts=ss
 | [],[],_,_,_=>rfl
 | [],_::_,_,_,e=>by simp at e
 |_::_,[],_,_,e=>by simp at e
 |t::ts,s::ss,h,k,e=>by
  simp only[afj,afH]at e;rw[I3 t s h.1 k.1 (by omega),ET ts ss h.2 k.2 e.2]
end
section
variable{vl:Nd->Vl}
def aeO:Cd->Prop
 |.atom k num vs=>(k=0∧vs=[])∨(k=1∧vs=[])∨(k=6∧vs.length=2)∨(k=7∧vs.length=3)
 |.gate _ _=>True
mutual
def Vb:Cd->Prop
 |.atom k num vs=>aeO (.atom k num vs)
 |.gate _ ks=>Qf ks
def Qf:List Cd->Prop
 | []=>True
 |c::cs=>Vb c∧Qf cs
end
end
