/-
  Policies that fit their schemas: other orders of the schemas, further schemas, and changed nodes.
-/
import Derived.Test.YtjnomgdildcbhaaGreatDoorAb4dP2
set_option linter.unusedVariables false
set_option linter.unusedSimpArgs false
namespace Go.Ab.Pol
theorem mM:∀ {l:List (Int×Int)},(eH l).2=0->eH l=(0,0)∧∀ e∈l,e.2=0
 | [],_=>⟨rfl,fun e h=>by simp at h⟩
 | e :: l,h=>by
  simp only [eH] at h ⊢
  by_cases he:e.2=0
  ·rw [if_pos he] at h ⊢
   obtain ⟨a,b⟩:=mM h
   exact ⟨a,fun x hx=>by
    rcases List.mem_cons.1 hx with rfl | hx
    ·exact he
    ·exact b x hx⟩
  ·rw [if_neg he] at h
   exact absurd h he
structure M0 (p:Po) (l:List Sc) (t:Tr):Prop where
 ready:bw p l=0
 Hv:∀ r∈p.aA.l,(findF p.uses.l l r).isSome=true
 conds:∀ s∈t.subs,(cZ (cP p.uses.l l) s).2=0
theorem BG {p:Po} {l:List Sc} {t:Tr} (h:(jd p l t).2=0):M0 p l t∧jd p l t=(0,0):=by
 unfold jd at h ⊢
 split at h
 ·rename_i a;exact absurd h a
 rename_i a
 split at h
 ·simp at h
 rename_i b
 rw [if_neg a,if_neg b]
 rw [jx] at h ⊢
 obtain ⟨c,d⟩:=mM h
 refine ⟨⟨by simpa using a,?_,fun s hs=>d _ (List.mem_map.2 ⟨s,hs,rfl⟩)⟩,c⟩
 have b:p.aA.l.all (fun r=>(findF p.uses.l l r).isSome)=true:=(Bool.not_eq_false _).mp b
 exact List.all_eq_true.1 b
theorem uC:∀ {l:List Sc},iI l=0->∀ s∈l,iZ s=0
 | [],_,s,h=>by simp at h
 | x :: l,h,s,hs=>by
  simp only [iI] at h
  split at h
  ·rename_i a
   rcases List.mem_cons.1 hs with rfl | hs
   ·exact a
   ·exact uC h s hs
  ·rename_i a;exact absurd h a
structure Qy (p:Po) (l:List Sc):Prop where
 chk:chk p=0
 sch:∀ s∈l,iZ s=0
 nd:(l.map Sc.name).Nodup
 uses:∀ u∈p.uses.l,(scN l u.sc).isSome=true
theorem kM {p:Po} {l:List Sc} (h:bw p l=0):Qy p l:=by
 unfold bw at h
 split at h
 ·rename_i a;exact absurd h a
 rename_i a
 split at h
 ·rename_i b;exact absurd h b
 rename_i b
 split at h
 ·simp at h
 rename_i c
 split at h
 ·simp at h
 rename_i d
 refine ⟨by simpa using a,uC (by simpa using b),Classical.not_not.1 c,?_⟩
 have d:p.uses.l.all (fun u=>(scN l u.sc).isSome)=true:=(Bool.not_eq_false _).mp d
 exact List.all_eq_true.1 d
theorem rP {l:List Sc} {nm:Bs} {s:Sc} (h:scN l nm=some s):s∈l∧s.name=nm:=by
 unfold scN at h
 exact ⟨List.mem_of_find?_eq_some h,by simpa using List.find?_some h⟩
/- A node that is changed. -/
theorem vZ {ns:List Nd}:∀ {ts:List Tr},lC ns ts↔∀ t∈ts,IsT ns t
 | []=>by simp [lC]
 | t :: ts=>by simp [lC,vZ (ts:=ts)]
section
variable (i:Nat) (n':Nd) (sw:Bool)
end
structure X3 (n0 n':Nd) (sw:Bool):Prop where
 nm:n'.nm=n0.nm
 attr:n'.attr=n0.attr
 k:n'.k=n0.k
 how:(sw=true∧n0.k=6∧(n0.num=0∨n0.num=1)∧n'.num=n0.num∧n0.kids.l.length=2∧n'.kids.l=n0.kids.l.reverse) ∨
  (sw=false∧n0.k=10∧-2147483648<=n'.num∧n'.num<=2147483647∧n'.kids.l=n0.kids.l)
section
variable {i:Nat} {n0 n':Nd} {sw:Bool} {ns:List Nd}
end
end Go.Ab.Pol
/-
  A policy that fits has a tree of the right types.
-/
namespace Go.Ab.Pol
theorem BZ {f:Nd->Option VT} {i:Nat} {n:Nd} {ks:List Tr} (hk:n.k=6∨n.k=7∨n.k=8) (h:(cZ f (.nd i n ks)).2=0):∃ vs,ks.map (fun t=>f t.n)=vs.map some∧eY n vs=0:=by
 simp only [cZ] at h
 rw [if_pos hk] at h
 cases e:iL f ks with
 | inl k=>rw [e] at h;simp at h
 | inr vs=>
  rw [e] at h
  simp only at h
  by_cases c:eY n vs=0
  ·exact ⟨vs,rY e,c⟩
  ·rw [if_neg c] at h;exact absurd h c
theorem O5 {α:Type} {l:List α} (h:l.length=2):∃ a b,l=[a,b]:=by
 match l,h with
 | [a,b],_=>exact ⟨a,b,rfl⟩
theorem O6 {α:Type} {l:List α} (h:l.length=3):∃ a b c,l=[a,b,c]:=by
 match l,h with
 | [a,b,c],_=>exact ⟨a,b,c,rfl⟩
end Go.Ab.Pol
/-
  A condition in normal form as nodes in JG, and as a tree.
-/
namespace Go.Ab.Pol
def aR (v:Nd):Nd:=⟨v.k,v.num,v.nm,v.attr,⟨true,[]⟩,0⟩
def upI (b n:Nat):List Int:=(List.range n).map fun j=>((b+j:Nat):Int)
mutual
def Cd.size:Cd->Nat
 | .atom _ _ vs=>vs.length+1
 | .gate _ ks=>Cd.sizes ks+1
def Cd.sizes:List Cd->Nat
 | []=>0
 | c :: cs=>c.size+Cd.sizes cs
end
def starts:Nat->List Cd->List Int
 | _,[]=>[]
 | b,c :: cs=>(b:Int) :: starts (b+c.size) cs
def bB (b:Nat) (k num:Int) (n:Nat):Nd:=⟨k,num,[],[],⟨true,upI (b+1) n⟩,0⟩
def cS (b:Nat) (need:Int) (ks:List Cd):Nd:=⟨5,need,[],[],⟨true,starts (b+1) ks⟩,0⟩
mutual
def flat:Nat->Cd->List Nd
 | b,.atom k num vs=>bB b k num vs.length :: vs.map aR
 | b,.gate need ks=>cS b need ks :: fU (b+1) ks
def fU:Nat->List Cd->List Nd
 | _,[]=>[]
 | b,c :: cs=>flat b c++fU (b+c.size) cs
end
mutual
theorem kI:∀ (b:Nat) (c:Cd),(flat b c).length=c.size
 | b,.atom k num vs=>by simp [flat,Cd.size]
 | b,.gate need ks=>by simp [flat,Cd.size,sY (b+1) ks]
theorem sY:∀ (b:Nat) (cs:List Cd),(fU b cs).length=Cd.sizes cs
 | _,[]=>rfl
 | b,c :: cs=>by simp [fU,Cd.sizes,kI b c,sY (b+c.size) cs]
end
def eD:Nat->List Nd->List Tr
 | _,[]=>[]
 | b,v :: vs=>.nd b (aR v) [] :: eD (b+1) vs
mutual
def bD:Nat->Cd->Tr
 | b,.atom k num vs=>.nd b (bB b k num vs.length) (eD (b+1) vs)
 | b,.gate need ks=>.nd b (cS b need ks) (eo (b+1) ks)
def eo:Nat->List Cd->List Tr
 | _,[]=>[]
 | b,c :: cs=>bD b c :: eo (b+c.size) cs
end
theorem GC (b:Nat) (c:Cd):(bD b c).i=b:=by cases c<;>rfl
theorem tL:∀ (cs:List Cd) (b:Nat),(eo b cs).length=cs.length
 | [],_=>rfl
 | c :: cs,b=>by simp [eo,tL cs]
theorem DF:∀ (vs:List Nd) (b:Nat),(eD b vs).map (fun t=>(t.i:Int))=upI b vs.length
 | [],b=>rfl
 | v :: vs,b=>by
  rw [eD,List.map_cons,DF vs (b+1),List.length_cons]
  simp only [upI,List.range_succ_eq_map,List.map_cons,List.map_map,Tr.i]
  congr 1
  apply List.map_congr_left
  intro j _
  simp only [Function.comp]
  omega
theorem GD:∀ (cs:List Cd) (b:Nat),(eo b cs).map (fun t=>(t.i:Int))=starts b cs
 | [],b=>rfl
 | c :: cs,b=>by rw [eo,List.map_cons,GD cs,starts,GC]
def At (ns:List Nd) (b:Nat) (l:List Nd):Prop:=∀ j n,l[j]?=some n->ns[b+j]?=some n
theorem lO {ns:List Nd} {b:Nat} {n:Nd} {l:List Nd} (h:At ns b (n :: l)):ns[b]?=some n∧At ns (b+1) l:=by
 refine ⟨by simpa using h 0 n rfl,fun j m hj=>?_⟩
 have:=h (j+1) m (by simpa using hj)
 rwa [show b+(j+1)=b+1+j by omega] at this
theorem EK {ns:List Nd} {b:Nat} {l m:List Nd} (h:At ns b (l++m)):At ns b l∧At ns (b+l.length) m:=by
 refine ⟨fun j n hj=>h j n ?_,fun j n hj=>?_⟩
 ·rw [List.getElem?_append_left (List.getElem?_eq_some_iff.1 hj).1];exact hj
 ·have:=h (l.length+j) n (by rw [List.getElem?_append_right (by omega)];simpa using hj)
  rwa [<-Nat.add_assoc] at this
theorem xO {ns:List Nd}:∀ (vs:List Nd) (b:Nat),At ns b (vs.map aR)->lC ns (eD b vs)
 | [],_,_=>trivial
 | v :: vs,b,h=>by
  obtain ⟨h1,h2⟩:=lO h
  exact ⟨⟨h1,rfl,trivial⟩,xO vs (b+1) h2⟩
mutual
theorem AP {ns:List Nd}:∀ (c:Cd) (b:Nat),At ns b (flat b c)->IsT ns (bD b c)
 | .atom k num vs,b,h=>by
  obtain ⟨h1,h2⟩:=lO h
  exact ⟨h1,(DF vs (b+1)).symm,xO vs (b+1) h2⟩
 | .gate need ks,b,h=>by
  obtain ⟨h1,h2⟩:=lO h
  exact ⟨h1,(GD ks (b+1)).symm,xP ks (b+1) h2⟩
theorem xP {ns:List Nd}:∀ (cs:List Cd) (b:Nat),At ns b (fU b cs)->lC ns (eo b cs)
 | [],_,_=>trivial
 | c :: cs,b,h=>by
  obtain ⟨h1,h2⟩:=EK h
  rw [kI] at h2
  exact ⟨AP c b h1,xP cs (b+c.size) h2⟩
end
theorem Fz (l:List Nd):At l 0 l:=fun j n h=>by simpa using h
mutual
theorem DG {ns:List Nd}:∀ (t s:Tr),IsT ns t->IsT ns s->t.i=s.i->t=s
 | .nd i n ks,.nd j m js,⟨a1,a2,a3⟩,⟨b1,b2,b3⟩,e=>by
  simp only [Tr.i] at e
  subst e
  rw [a1] at b1
  injection b1 with b1
  subst b1
  rw [AQ ks js a3 b3 (by rw [<-a2,<-b2])]
theorem AQ {ns:List Nd}:∀ (ts ss:List Tr),lC ns ts->lC ns ss->ts.map (fun t=>(t.i:Int))=ss.map (fun t=>(t.i:Int))->ts=ss
 | [],[],_,_,_=>rfl
 | [],_ :: _,_,_,e=>by simp at e
 | _ :: _,[],_,_,e=>by simp at e
 | t :: ts,s :: ss,h,k,e=>by
  simp only [List.map_cons,List.cons.injEq] at e
  rw [DG t s h.1 k.1 (by omega),AQ ts ss h.2 k.2 e.2]
end
section
variable {vl:Nd->Vl}
def Xz:Cd->Prop
 | .atom k num vs=>(k=0∧vs=[])∨(k=1∧vs=[])∨(k=6∧vs.length=2)∨(k=7∧vs.length=3)
 | .gate _ _=>True
mutual
def Og:Cd->Prop
 | .atom k num vs=>Xz (.atom k num vs)
 | .gate _ ks=>KI ks
def KI:List Cd->Prop
 | []=>True
 | c :: cs=>Og c∧KI cs
end
end
end Go.Ab.Pol
