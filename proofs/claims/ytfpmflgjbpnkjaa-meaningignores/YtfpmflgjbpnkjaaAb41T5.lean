/-
  The examples of chapter 45 hold.
-/
import Derived.Test.YtfpmflgjbpnkjaaAb41T2
import Derived.Test.YtfpmflgjbpnkjaaAb41T3
import Derived.Test.YtfpmflgjbpnkjaaAb41T4
import Derived.Test.YtfpmflgjbpnkjaaAb41P6
set_option linter.unusedVariables false
set_option linter.unusedSimpArgs false
namespace Go.Ab.Pl
open Go.Ab.Pol
set_option maxRecDepth 100000
set_option maxHeartbeats 4000000
theorem eq_ex_run (g f:List Blk):(evF K 60).fn 105 [.lst [iV 18,iV 1],.lst [iV 18,iV 1]] [g,f]=some (.val (.bool true) [g,f]):=by kernel_rfl
theorem eq_ex (g f:List Blk):(mu K).fn 105 [.lst [iV 18,iV 1],.lst [iV 18,iV 1]] [g,f]=some (.val (.bool true) [g,f]):=(evF_le K 60).fn _ _ _ _ (eq_ex_run g f)
theorem ex_xs (a b:Int):((exX a b).avS fun s=>s.avS iV)=.lst [.lst [iV a,iV b]]:=rfl
theorem awake45 (f:List Blk):(mu K).fn 52 [] [f]=some (.val (.bool true) [f]):=by
 have k1:=fun g=>ex_pol g f
 have k2:=fun g=>ex_sch g f
 have k3:=fun g=>eq_ex g f
 have h1:=fun g=>holds18_1 g f
 have h2:=fun g=>holds18_0 g f
 have h3:=fun g=>holds17_1 g f
 have h4:=fun g=>holds130_0 g f
 have s1:=fun g=>search20 g f
 have s2:=fun g=>search10 g f
 rw [ex_xs] at h1 h2 h3 h4
 rw [fn_go (KX _ _ _) fn52 rfl (by simp [c52])]
 simp [c52,KL,lendF,k1,k2,k3,h1,h2,h3,h4,s1,s2]
end Go.Ab.Pl
