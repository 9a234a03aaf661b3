/-
  A node alone: the program.
-/
import Derived.Test.YtfpmflgjbpnkjaaGreatDoorAb4dP1
set_option linter.unusedVariables false
set_option linter.unusedSimpArgs false
set_option linter.unusedSectionVars false
namespace Go.Ab.Pn
open Go.Ab.Pol
set_option maxRecDepth 100000
set_option maxHeartbeats 1000000
theorem f217 (k:Int) (n:Nat) (h:Heap):(mu K).fn 217 [.int .i64 k,.int .i64 (n:Int)] h=some (.val (.bool (kidsOk k n)) h):=by
 rw [fn_go (KX _ _ _) fn217 rfl (by simp [c217])]
 unfold kidsOk
 have n1:(1≤(n:Int))=(1≤n):=by simp;omega
 have n2:(2≤(n:Int))=(2≤n):=by simp;omega
 have n3:((n:Int)=1)=(n=1):=by simp;omega
 have n4:((n:Int)=2)=(n=2):=by simp;omega
 have n5:((n:Int)=3)=(n=3):=by simp;omega
 by_cases e0:k=0
 ·subst e0;simp [c217]
 by_cases e1:k=1
 ·subst e1;simp [c217]
 by_cases e9:k=9
 ·subst e9;simp [c217]
 by_cases e10:k=10
 ·subst e10;simp [c217]
 by_cases e11:k=11
 ·subst e11;simp [c217]
 by_cases e2:k=2
 ·subst e2;simp [c217,n3]
 by_cases e3:k=3
 ·subst e3;simp [c217,n1]
 by_cases e4:k=4
 ·subst e4;simp [c217,n1]
 by_cases e5:k=5
 ·subst e5;simp [c217,n1]
 by_cases e6:k=6
 ·subst e6;simp [c217,n4]
 by_cases e7:k=7
 ·subst e7;simp [c217,n5]
 by_cases e8:k=8
 ·subst e8;simp [c217,n2]
 simp [c217,e0,e1,e2,e3,e4,e5,e6,e7,e8,e9,e10,e11]
abbrev okN (x:Nd):Prop:=okS x.nm∧okS x.attr
theorem f218 (x:Nd) (hx:okN x) (h:Heap):(mu K).fn 218 [x.av] h=some (.val (.bool (textsOk x)) h):=by
 have a1:=fun h=>f170 x.nm hx.1 h
 have a2:=fun h=>f170 x.attr hx.2 h
 have a3:=fun h=>f171 x.nm hx.1 h
 rw [fn_go (KX _ _ _) fn218 rfl (by simp [c218])]
 unfold textsOk
 by_cases e9:x.k=9
 ·cases b1:nameOk x.nm<;>simp [c218,KL,lendF,e9,a1,a2,b1]
 by_cases e11:x.k=11
 ·cases b1:wordOk x.nm<;>simp [c218,KL,lendF,e9,e11,a3,b1]
 by_cases b1:x.nm=[]
 ·have d1:(x.nm=[])=True:=by simp [b1]
  simp [c218,KL,lendF,e9,e11,d1]
 ·simp [c218,KL,lendF,e9,e11,b1]
theorem f173 (x:Nd) (c:Bool) (hx:okN x) (h:Heap):(mu K).fn 173 [x.av,.bool c] h=some (.val (.int .i64 (formE x c)) h):=by
 have k150:=fun h=>f217 x.k x.kids.l.length h
 have k151:=fun h=>f218 x hx h
 rw [fn_go (KX _ _ _) fn173 rfl (by simp [c173])]
 unfold formE shapeOk
 by_cases c1:x.k < 0
 ·have c1':¬ 0≤x.k:=by omega
  simp [c173,KL,lendF,c1,c1']
 have c1':0≤x.k:=by omega
 by_cases c2:12≤x.k
 ·have c2':¬ x.k < 12:=by omega
  simp [c173,KL,lendF,c1,c1',c2,c2']
 have c2':x.k < 12:=by omega
 cases c3:(decide (x.k≤8) == c)
 ·simp [c173,KL,lendF,c1,c1',c2,c2',c3]
 cases c4:kidsOk x.k x.kids.l.length
 ·simp [c173,KL,lendF,c1,c1',c2,c2',c3,c4,k150]
 cases c5:textsOk x
 ·simp [c173,KL,lendF,c1,c1',c2,c2',c3,c4,c5,k150,k151]
 unfold lowN highN
 have base:=k150
 by_cases e5:x.k=5
 ·have d5:(x.k=5)=True:=by simp [e5]
  have d6:(x.k=6)=False:=by simp [e5]
  have d10:(x.k=10)=False:=by simp [e5]
  by_cases l1:x.num < 1
  ·simp [c173,KL,lendF,c1,c1',c2,c2',c3,c4,c5,k150,k151,d5,d6,d10,l1]
  by_cases l2:(x.kids.l.length:Int) < x.num
  ·simp [c173,KL,lendF,c1,c1',c2,c2',c3,c4,c5,k150,k151,d5,d6,d10,l1,l2]
  ·simp [c173,KL,lendF,c1,c1',c2,c2',c3,c4,c5,k150,k151,d5,d6,d10,l1,l2]
 have d5:(x.k=5)=False:=by simp [e5]
 by_cases e6:x.k=6
 ·have d6:(x.k=6)=True:=by simp [e6]
  have d10:(x.k=10)=False:=by simp [e6]
  by_cases l1:x.num < 0
  ·simp [c173,KL,lendF,c1,c1',c2,c2',c3,c4,c5,k150,k151,d5,d6,d10,l1]
  by_cases l2:5 < x.num
  ·simp [c173,KL,lendF,c1,c1',c2,c2',c3,c4,c5,k150,k151,d5,d6,d10,l1,l2]
  ·simp [c173,KL,lendF,c1,c1',c2,c2',c3,c4,c5,k150,k151,d5,d6,d10,l1,l2]
 have d6:(x.k=6)=False:=by simp [e6]
 by_cases e10:x.k=10
 ·have d10:(x.k=10)=True:=by simp [e10]
  by_cases l1:x.num < -2147483648
  ·simp [c173,KL,lendF,c1,c1',c2,c2',c3,c4,c5,k150,k151,d5,d6,d10,l1]
  by_cases l2:2147483647 < x.num
  ·simp [c173,KL,lendF,c1,c1',c2,c2',c3,c4,c5,k150,k151,d5,d6,d10,l1,l2]
  ·simp [c173,KL,lendF,c1,c1',c2,c2',c3,c4,c5,k150,k151,d5,d6,d10,l1,l2]
 have d10:(x.k=10)=False:=by simp [e10]
 by_cases l1:x.num < 0
 ·simp [c173,KL,lendF,c1,c1',c2,c2',c3,c4,c5,k150,k151,d5,d6,d10,l1]
 by_cases l2:0 < x.num
 ·simp [c173,KL,lendF,c1,c1',c2,c2',c3,c4,c5,k150,k151,d5,d6,d10,l1,l2]
 ·simp [c173,KL,lendF,c1,c1',c2,c2',c3,c4,c5,k150,k151,d5,d6,d10,l1,l2]
end Go.Ab.Pn
