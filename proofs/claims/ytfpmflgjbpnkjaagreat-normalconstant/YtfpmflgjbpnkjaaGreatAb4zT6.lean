/-
  The examples of chapter 46, by the kernel: the normal forms.
-/
import Derived.Test.YtfpmflgjbpnkjaaGreatAb4z
import Derived.Test.YtfpmflgjbpnkjaaGreatAbData
import Derived.Test.YtfpmflgjbpnkjaaGreatAbRefs
set_option linter.unusedVariables false
set_option linter.unusedSimpArgs false
namespace Go.Ab.Pz
open Go.Ab.Pol
set_option maxRecDepth 100000
abbrev exU:Sl Us:=⟨false,[⟨[105,100],[80,97,115,115,112,111,114,116]⟩]⟩
def ex46 (how n:Int):Po:=⟨[112],exU,⟨true,[]⟩,⟨false,[⟨2,0,[],[],⟨false,[1]⟩,0⟩,⟨6,how,[],[],⟨false,[2,3]⟩,0⟩,⟨9,0,[105,100],[97,103,101],⟨true,[]⟩,0⟩,⟨10,n,[],[],⟨true,[]⟩,0⟩]⟩,0,[],0,[]⟩
def sc46:Sl Sc:=⟨false,[⟨[80,97,115,115,112,111,114,116],⟨false,[⟨[97,103,101],0,0,120,⟨true,[]⟩⟩,⟨[108,97,110,100],1,0,0,⟨false,[[100,101],[102,114]]⟩⟩]⟩⟩]⟩
def q46:Po:=⟨[112],exU,⟨true,[]⟩,⟨false,[⟨7,0,[],[],⟨false,[1,2,3]⟩,0⟩,⟨9,0,[105,100],[97,103,101],⟨true,[]⟩,0⟩,⟨10,18,[],[],⟨true,[]⟩,0⟩,⟨10,120,[],[],⟨true,[]⟩,0⟩]⟩,0,[],0,[]⟩
def qF46:Po:=⟨[112],exU,⟨true,[]⟩,⟨false,[⟨1,0,[],[],⟨true,[]⟩,0⟩]⟩,0,[],0,[]⟩
theorem run61a (g f:List Blk):(evF K 100).fn 26 [(ex46 2 18).av,sc46.avS Sc.av] [g,f]=some (.val (.tup [q46.av,iV 0]) [g,f]):=by kernel_rfl
theorem run61b (g f:List Blk):(evF K 100).fn 26 [(ex46 5 0).av,sc46.avS Sc.av] [g,f]=some (.val (.tup [qF46.av,iV 0]) [g,f]):=by kernel_rfl
end Go.Ab.Pz
