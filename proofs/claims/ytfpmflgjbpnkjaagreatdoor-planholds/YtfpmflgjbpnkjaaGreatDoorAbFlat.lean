/-
  A condition in normal form as nodes in preorder, and as a tree.
-/
import Derived.Test.YtfpmflgjbpnkjaaGreatDoorAbRefs
set_option linter.unusedVariables false
set_option linter.unusedSimpArgs false
namespace Go.Ab.Pol
def leafN (v:Nd):Nd:=⟨v.k,v.num,v.nm,v.attr,⟨true,[]⟩,0⟩
def upI (b n:Nat):List Int:=(List.range n).map fun j=>((b+j:Nat):Int)
mutual
def Cd.size:Cd→Nat
 | .atom _ _ vs=>vs.length+1
 | .gate _ ks=>Cd.sizes ks+1
def Cd.sizes:List Cd→Nat
 | []=>0
 | c :: cs=>c.size+Cd.sizes cs
end
def starts:Nat→List Cd→List Int
 | _,[]=>[]
 | b,c :: cs=>(b:Int) :: starts (b+c.size) cs
def atomN (b:Nat) (k num:Int) (n:Nat):Nd:=⟨k,num,[],[],⟨true,upI (b+1) n⟩,0⟩
def gateN (b:Nat) (need:Int) (ks:List Cd):Nd:=⟨5,need,[],[],⟨true,starts (b+1) ks⟩,0⟩
mutual
def flat:Nat→Cd→List Nd
 | b,.atom k num vs=>atomN b k num vs.length :: vs.map leafN
 | b,.gate need ks=>gateN b need ks :: flats (b+1) ks
def flats:Nat→List Cd→List Nd
 | _,[]=>[]
 | b,c :: cs=>flat b c++flats (b+c.size) cs
end
mutual
theorem flat_len:∀ (b:Nat) (c:Cd),(flat b c).length=c.size
 | b,.atom k num vs=>by simp [flat,Cd.size]
 | b,.gate need ks=>by simp [flat,Cd.size,flats_len (b+1) ks]
theorem flats_len:∀ (b:Nat) (cs:List Cd),(flats b cs).length=Cd.sizes cs
 | _,[]=>rfl
 | b,c :: cs=>by simp [flats,Cd.sizes,flat_len b c,flats_len (b+c.size) cs]
end
def leavesT:Nat→List Nd→List Tr
 | _,[]=>[]
 | b,v :: vs=>.nd b (leafN v) [] :: leavesT (b+1) vs
mutual
def treeC:Nat→Cd→Tr
 | b,.atom k num vs=>.nd b (atomN b k num vs.length) (leavesT (b+1) vs)
 | b,.gate need ks=>.nd b (gateN b need ks) (treesC (b+1) ks)
def treesC:Nat→List Cd→List Tr
 | _,[]=>[]
 | b,c :: cs=>treeC b c :: treesC (b+c.size) cs
end
theorem treeC_i (b:Nat) (c:Cd):(treeC b c).i=b:=by cases c<;>rfl
theorem leaves_i:∀ (vs:List Nd) (b:Nat),(leavesT b vs).map (fun t=>(t.i:Int))=upI b vs.length
 | [],b=>rfl
 | v :: vs,b=>by
  rw [leavesT,List.map_cons,leaves_i vs (b+1),List.length_cons]
  simp only [upI,List.range_succ_eq_map,List.map_cons,List.map_map,Tr.i]
  congr 1
  apply List.map_congr_left
  intro j _
  simp only [Function.comp]
  omega
theorem trees_i:∀ (cs:List Cd) (b:Nat),(treesC b cs).map (fun t=>(t.i:Int))=starts b cs
 | [],b=>rfl
 | c :: cs,b=>by rw [treesC,List.map_cons,trees_i cs,starts,treeC_i]
def At (ns:List Nd) (b:Nat) (l:List Nd):Prop:=∀ j n,l[j]?=some n→ns[b+j]?=some n
theorem at_cons {ns:List Nd} {b:Nat} {n:Nd} {l:List Nd} (h:At ns b (n :: l)):ns[b]?=some n∧At ns (b+1) l:=by
 refine ⟨by simpa using h 0 n rfl,fun j m hj=>?_⟩
 have:=h (j+1) m (by simpa using hj)
 rwa [show b+(j+1)=b+1+j by omega] at this
theorem at_app {ns:List Nd} {b:Nat} {l m:List Nd} (h:At ns b (l++m)):At ns b l∧At ns (b+l.length) m:=by
 refine ⟨fun j n hj=>h j n ?_,fun j n hj=>?_⟩
 ·rw [List.getElem?_append_left (List.getElem?_eq_some_iff.1 hj).1];exact hj
 ·have:=h (l.length+j) n (by rw [List.getElem?_append_right (by omega)];simpa using hj)
  rwa [←Nat.add_assoc] at this
theorem leaves_isT {ns:List Nd}:∀ (vs:List Nd) (b:Nat),At ns b (vs.map leafN)→IsTs ns (leavesT b vs)
 | [],_,_=>trivial
 | v :: vs,b,h=>by
  obtain ⟨h1,h2⟩:=at_cons h
  exact ⟨⟨h1,rfl,trivial⟩,leaves_isT vs (b+1) h2⟩
mutual
theorem treeC_isT {ns:List Nd}:∀ (c:Cd) (b:Nat),At ns b (flat b c)→IsT ns (treeC b c)
 | .atom k num vs,b,h=>by
  obtain ⟨h1,h2⟩:=at_cons h
  exact ⟨h1,(leaves_i vs (b+1)).symm,leaves_isT vs (b+1) h2⟩
 | .gate need ks,b,h=>by
  obtain ⟨h1,h2⟩:=at_cons h
  exact ⟨h1,(trees_i ks (b+1)).symm,treesC_isT ks (b+1) h2⟩
theorem treesC_isT {ns:List Nd}:∀ (cs:List Cd) (b:Nat),At ns b (flats b cs)→IsTs ns (treesC b cs)
 | [],_,_=>trivial
 | c :: cs,b,h=>by
  obtain ⟨h1,h2⟩:=at_app h
  rw [flat_len] at h2
  exact ⟨treeC_isT c b h1,treesC_isT cs (b+c.size) h2⟩
end
theorem at_self (l:List Nd):At l 0 l:=fun j n h=>by simpa using h
mutual
theorem isT_uniq {ns:List Nd}:∀ (t s:Tr),IsT ns t→IsT ns s→t.i=s.i→t=s
 | .nd i n ks,.nd j m js,⟨a1,a2,a3⟩,⟨b1,b2,b3⟩,e=>by
  simp only [Tr.i] at e
  subst e
  rw [a1] at b1
  injection b1 with b1
  subst b1
  rw [isTs_uniq ks js a3 b3 (by rw [←a2,←b2])]
theorem isTs_uniq {ns:List Nd}:∀ (ts ss:List Tr),IsTs ns ts→IsTs ns ss→ts.map (fun t=>(t.i:Int))=ss.map (fun t=>(t.i:Int))→ts=ss
 | [],[],_,_,_=>rfl
 | [],_ :: _,_,_,e=>by simp at e
 | _ :: _,[],_,_,e=>by simp at e
 | t :: ts,s :: ss,h,k,e=>by
  simp only [List.map_cons,List.cons.injEq] at e
  rw [isT_uniq t s h.1 k.1 (by omega),isTs_uniq ts ss h.2 k.2 e.2]
end
section
variable {vl:Nd→Vl}
end
end Go.Ab.Pol
