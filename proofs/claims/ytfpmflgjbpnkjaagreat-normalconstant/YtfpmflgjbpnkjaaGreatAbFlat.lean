/-
  A condition in normal form as nodes in preorder, and as a tree.
-/
import Derived.Test.YtfpmflgjbpnkjaaGreatAbRefs
set_option linter.unusedVariables false
set_option linter.unusedSimpArgs false
namespace Go.Ab.Pol
def leafN (v:Nd):Nd:=⟨v.k,v.num,v.nm,v.attr,⟨true,[]⟩,0⟩
def upI (b n:Nat):List Int:=(List.range n).map fun j=>((b+j:Nat):Int)
mutual
def Cd.size:Cd→Nat
 | .atom _ _ vs=>vs.length+1
 | .gate _ ks=>Cd.sizes ks+1
def Cd.sizes:List Cd→Nat
 | []=>0
 | c :: cs=>c.size+Cd.sizes cs
end
def starts:Nat→List Cd→List Int
 | _,[]=>[]
 | b,c :: cs=>(b:Int) :: starts (b+c.size) cs
def atomN (b:Nat) (k num:Int) (n:Nat):Nd:=⟨k,num,[],[],⟨true,upI (b+1) n⟩,0⟩
def gateN (b:Nat) (need:Int) (ks:List Cd):Nd:=⟨5,need,[],[],⟨true,starts (b+1) ks⟩,0⟩
mutual
def flat:Nat→Cd→List Nd
 | b,.atom k num vs=>atomN b k num vs.length :: vs.map leafN
 | b,.gate need ks=>gateN b need ks :: flats (b+1) ks
def flats:Nat→List Cd→List Nd
 | _,[]=>[]
 | b,c :: cs=>flat b c++flats (b+c.size) cs
end
mutual
theorem flat_len:∀ (b:Nat) (c:Cd),(flat b c).length=c.size
 | b,.atom k num vs=>by simp [flat,Cd.size]
 | b,.gate need ks=>by simp [flat,Cd.size,flats_len (b+1) ks]
theorem flats_len:∀ (b:Nat) (cs:List Cd),(flats b cs).length=Cd.sizes cs
 | _,[]=>rfl
 | b,c :: cs=>by simp [flats,Cd.sizes,flat_len b c,flats_len (b+c.size) cs]
end
section
variable {vl:Nd→Vl}
end
end Go.Ab.Pol
