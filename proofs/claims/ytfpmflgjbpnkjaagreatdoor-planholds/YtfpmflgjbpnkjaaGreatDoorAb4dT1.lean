/-
  The examples of chapter 47, as data.
-/
import Derived.Test.YtfpmflgjbpnkjaaGreatDoorAb4d
import Derived.Test.YtfpmflgjbpnkjaaGreatDoorAbData
import Derived.Test.YtfpmflgjbpnkjaaGreatDoorAbPlan
import Derived.Test.YtfpmflgjbpnkjaaGreatDoorAbNf
set_option linter.unusedVariables false
set_option linter.unusedSimpArgs false
namespace Go.Ab.Pn
open Go.Ab.Pol
set_option maxRecDepth 100000
abbrev exU:Sl Us:=⟨false,[⟨[105,100],[80,97,115,115,112,111,114,116]⟩]⟩
def ex47 (k:Int):Po:=⟨[112],exU,⟨true,[]⟩,⟨false,[⟨k,0,[],[],⟨false,[1,4]⟩,0⟩,⟨6,5,[],[],⟨false,[2,3]⟩,0⟩,⟨9,0,[105,100],[97,103,101],⟨true,[]⟩,0⟩,⟨10,18,[],[],⟨true,[]⟩,0⟩,
 ⟨6,0,[],[],⟨false,[5,6]⟩,0⟩,⟨9,0,[105,100],[108,97,110,100],⟨true,[]⟩,0⟩,⟨11,0,[102,114],[],⟨true,[]⟩,0⟩]⟩,0,[],0,[]⟩
def sc47:Sl Sc:=⟨false,[⟨[80,97,115,115,112,111,114,116],⟨false,[⟨[97,103,101],0,0,120,⟨true,[]⟩⟩,⟨[108,97,110,100],1,0,0,⟨false,[[100,101],[102,114]]⟩⟩]⟩⟩,⟨[67,97,114,100],⟨false,[⟨[108,101,118,101,108],0,10,12,⟨true,[]⟩⟩]⟩⟩]⟩
abbrev vAge:Nd:=⟨9,0,[105,100],[97,103,101],⟨true,[]⟩,0⟩
abbrev vLand:Nd:=⟨9,0,[105,100],[108,97,110,100],⟨true,[]⟩,0⟩
def c47c (need:Int):Cd:=.gate need [.atom 7 0 [vAge,numN 18,numN 120],.atom 6 0 [vLand,⟨11,0,[102,114],[],⟨true,[]⟩,0⟩]]
def nf47 (need:Int):Po:=nodP (ex47 3) (c47c need)
def refs47:List Rf:=[⟨[105,100],[97,103,101]⟩,⟨[105,100],[108,97,110,100]⟩]
theorem r15a (e g f:List Blk):(evF K 100).fn 15 [(ex47 3).av,sc47.avS Sc.av] [e,g,f]=some (.val (.tup [(nf47 2).av,iV 0]) [e,g,f]):=by kernel_rfl
theorem r15b (e g f:List Blk):(evF K 100).fn 15 [(ex47 4).av,sc47.avS Sc.av] [e,g,f]=some (.val (.tup [(nf47 1).av,iV 0]) [e,g,f]):=by kernel_rfl
end Go.Ab.Pn
