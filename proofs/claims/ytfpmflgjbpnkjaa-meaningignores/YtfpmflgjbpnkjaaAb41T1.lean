/-
  The examples of chapter 45, by the kernel: the data.
-/
import Derived.Test.YtfpmflgjbpnkjaaAb41
import Derived.Test.YtfpmflgjbpnkjaaAbUse
import Derived.Test.YtfpmflgjbpnkjaaAbRefs
set_option linter.unusedVariables false
namespace Go.Ab.Pl
open Go.Ab.Pol
set_option maxRecDepth 100000
def exP:Po:=⟨[112],⟨false,[⟨[105,100],[80,97,115,115,112,111,114,116]⟩]⟩,⟨true,[]⟩,⟨false,[⟨3,0,[],[],⟨false,[1,5]⟩,0⟩,⟨2,0,[],[],⟨false,[2]⟩,0⟩,⟨6,2,[],[],⟨false,[3,4]⟩,0⟩,⟨9,0,[105,100],[97,103,101],⟨true,[]⟩,0⟩,⟨10,18,[],[],⟨true,[]⟩,0⟩,⟨8,0,[],[],⟨false,[6,7]⟩,0⟩,⟨9,0,[105,100],[108,97,110,100],⟨true,[]⟩,0⟩,⟨11,0,[102,114],[],⟨true,[]⟩,0⟩]⟩,0,[],0,[]⟩
def exS:Sl Sc:=⟨false,[⟨[80,97,115,115,112,111,114,116],⟨false,[⟨[97,103,101],0,0,120,⟨true,[]⟩⟩,⟨[108,97,110,100],1,0,0,⟨false,[[100,101],[102,114]]⟩⟩]⟩⟩]⟩
def exX (a b:Int):Sl (Sl Int):=⟨false,[⟨false,[a,b]⟩]⟩
theorem ex_pol_run (g f:List Blk):(evF K 60).fn 103 [] [g,f]=some (.val exP.av [g,f]):=by kernel_rfl
theorem ex_sch_run (g f:List Blk):(evF K 60).fn 104 [] [g,f]=some (.val (exS.avS Sc.av) [g,f]):=by kernel_rfl
theorem ex_pol (g f:List Blk):(mu K).fn 103 [] [g,f]=some (.val exP.av [g,f]):=(evF_le K 60).fn _ _ _ _ (ex_pol_run g f)
theorem ex_sch (g f:List Blk):(mu K).fn 104 [] [g,f]=some (.val (exS.avS Sc.av) [g,f]):=(evF_le K 60).fn _ _ _ _ (ex_sch_run g f)
end Go.Ab.Pl
