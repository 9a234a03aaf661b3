/-
  Atoms of plans: their check, what they say, their widths; program and reference.
-/
import Derived.Test.YtfpmflgjbpnkjaaGreatDoorAb4dP5
import Derived.Test.YtfpmflgjbpnkjaaGreatDoorAbPlan
set_option linter.unusedVariables false
set_option linter.unusedSimpArgs false
set_option linter.unusedSectionVars false
namespace Go.Ab.Pn
open Go.Ab.Pol
set_option maxRecDepth 100000
set_option maxHeartbeats 1000000
section
variable {h:Heap}
theorem lt_of {a:Loc} {B:Blk} (e:hget h a=some B):(h.length=a.1)=False∧(a.1=h.length)=False:=by
 have:=hget_lt e
 constructor<;>(simp;omega)
theorem f121 (i n:Int) (a:Loc) (ha:hget h a=some (.box 3 false (iV n))):(mu K).fn 121 [iV i,.ptr a 0] h=some (.val (.bool (decide (0≤i) && decide (i < n))) h):=by
 obtain ⟨ne,ne2⟩:=lt_of ha
 rw [fn_go (KX _ _ _) fn121 rfl (by simp [c121])]
 by_cases c:0≤i
 ·simp [c121,KL,lendF,hget,ha,ne,ne2,c]
 ·have c':i < 0:=by omega
  simp [c121,KL,lendF,hget,ha,ne,ne2,c,c']
theorem f122 (b:Bool) (x:Pt) (a a':Loc) (ha:hget h a=some (.box 4 false (.bool b))) (hb:hget h a'=some (.box 56 false x.av)) :
  (mu K).fn 122 [.ptr a 0,.ptr a' 0] h=some (.val (.bool (b && decide (0≤x.lo) && decide (x.lo≤mostI) && decide (x.hi=0))) h):=by
 obtain ⟨ne,ne2⟩:=lt_of ha
 obtain ⟨ne3,ne4⟩:=lt_of hb
 have m:mostI=4294967295:=rfl
 rw [fn_go (KX _ _ _) fn122 rfl (by simp [c122])]
 rw [m]
 cases b
 ·simp [c122,KL,lendF,hget,ha,hb,ne,ne2,ne3,ne4]
 by_cases c1:0≤x.lo
 ·by_cases c2:x.lo≤4294967295
  ·simp [c122,KL,lendF,hget,ha,hb,ne,ne2,ne3,ne4,c1,c2]
  ·simp [c122,KL,lendF,hget,ha,hb,ne,ne2,ne3,ne4,c1,c2]
 ·simp [c122,KL,lendF,hget,ha,hb,ne,ne2,ne3,ne4,c1]
theorem f123 (b:Bool) (x:Pt) (a a':Loc) (ha:hget h a=some (.box 4 false (.bool b))) (hb:hget h a'=some (.box 56 false x.av)) :
  (mu K).fn 123 [.ptr a 0,.ptr a' 0] h=some (.val (.bool (b && decide (0≤x.lo) && decide (x.lo≤mostI) && decide (x.hi=0))) h):=by
 obtain ⟨ne,ne2⟩:=lt_of ha
 obtain ⟨ne3,ne4⟩:=lt_of hb
 have m:mostI=4294967295:=rfl
 rw [fn_go (KX _ _ _) fn123 rfl (by simp [c123])]
 rw [m]
 cases b
 ·simp [c123,KL,lendF,hget,ha,hb,ne,ne2,ne3,ne4]
 by_cases c1:0≤x.lo
 ·by_cases c2:x.lo≤4294967295
  ·simp [c123,KL,lendF,hget,ha,hb,ne,ne2,ne3,ne4,c1,c2]
  ·simp [c123,KL,lendF,hget,ha,hb,ne,ne2,ne3,ne4,c1,c2]
 ·simp [c123,KL,lendF,hget,ha,hb,ne,ne2,ne3,ne4,c1]
theorem f124 (b:Bool) (x:Pt) (a a':Loc) (ha:hget h a=some (.box 4 false (.bool b))) (hb:hget h a'=some (.box 56 false x.av)) :
  (mu K).fn 124 [.ptr a 0,.ptr a' 0] h=some (.val (.bool (b && decide (0≤x.lo) && decide (x.lo≤x.hi) && decide (x.hi≤mostI))) h):=by
 obtain ⟨ne,ne2⟩:=lt_of ha
 obtain ⟨ne3,ne4⟩:=lt_of hb
 have m:mostI=4294967295:=rfl
 rw [fn_go (KX _ _ _) fn124 rfl (by simp [c124])]
 rw [m]
 cases b
 ·simp [c124,KL,lendF,hget,ha,hb,ne,ne2,ne3,ne4]
 by_cases c1:0≤x.lo
 ·by_cases c2:x.lo≤x.hi
  ·simp [c124,KL,lendF,hget,ha,hb,ne,ne2,ne3,ne4,c1,c2]
  ·simp [c124,KL,lendF,hget,ha,hb,ne,ne2,ne3,ne4,c1,c2]
 ·simp [c124,KL,lendF,hget,ha,hb,ne,ne2,ne3,ne4,c1]
theorem f125 (b:Bool) (x:Pt) (a a':Loc) (ha:hget h a=some (.box 4 false (.bool b))) (hb:hget h a'=some (.box 56 false x.av)) :
  (mu K).fn 125 [.ptr a 0,.ptr a' 0] h=some (.val (.bool (b && decide (x.lo=0) && decide (x.hi=0))) h):=by
 obtain ⟨ne,ne2⟩:=lt_of ha
 obtain ⟨ne3,ne4⟩:=lt_of hb
 rw [fn_go (KX _ _ _) fn125 rfl (by simp [c125])]
 cases b
 ·simp [c125,KL,lendF,hget,ha,hb,ne,ne2,ne3,ne4]
 by_cases c1:x.lo=0
 ·have c1:(x.lo=0)=True:=by simp [c1]
  simp [c125,KL,lendF,hget,ha,hb,ne,ne2,ne3,ne4,c1]
 ·simp [c125,KL,lendF,hget,ha,hb,ne,ne2,ne3,ne4,c1]
theorem f126 (b:Bool) (x:Pt) (a a':Loc) (ha:hget h a=some (.box 4 false (.bool b))) (hb:hget h a'=some (.box 56 false x.av)) :
  (mu K).fn 126 [.ptr a 0,.ptr a' 0] h=some (.val (.bool (b && decide (x.lo=0) && decide (x.hi=0))) h):=by
 obtain ⟨ne,ne2⟩:=lt_of ha
 obtain ⟨ne3,ne4⟩:=lt_of hb
 rw [fn_go (KX _ _ _) fn126 rfl (by simp [c126])]
 cases b
 ·simp [c126,KL,lendF,hget,ha,hb,ne,ne2,ne3,ne4]
 by_cases c1:x.lo=0
 ·have c1:(x.lo=0)=True:=by simp [c1]
  simp [c126,KL,lendF,hget,ha,hb,ne,ne2,ne3,ne4,c1]
 ·simp [c126,KL,lendF,hget,ha,hb,ne,ne2,ne3,ne4,c1]
def distOk (x:Pt):Bool:=decide (-mostI≤x.lo∧x.lo≤x.hi∧x.hi≤mostI∧x.hi - x.lo≤mostI)
theorem f127 (b:Bool) (x:Pt) (a a':Loc) (ha:hget h a=some (.box 4 false (.bool b))) (hb:hget h a'=some (.box 56 false x.av)) :
  (mu K).fn 127 [.ptr a 0,.ptr a' 0] h=some (.val (.bool (b && distOk x)) h):=by
 obtain ⟨ne,ne2⟩:=lt_of ha
 obtain ⟨ne3,ne4⟩:=lt_of hb
 have m:mostI=4294967295:=rfl
 rw [fn_go (KX _ _ _) fn127 rfl (by simp [c127])]
 unfold distOk
 rw [m]
 cases b
 ·simp [c127,KL,lendF,hget,ha,hb,ne,ne2,ne3,ne4]
 by_cases c1:-4294967295≤x.lo
 case neg=>simp [c127,KL,lendF,hget,ha,hb,ne,ne2,ne3,ne4,c1]
 by_cases c2:x.lo≤x.hi
 case neg=>simp [c127,KL,lendF,hget,ha,hb,ne,ne2,ne3,ne4,c1,c2]
 by_cases c3:x.hi≤4294967295
 case neg=>simp [c127,KL,lendF,hget,ha,hb,ne,ne2,ne3,ne4,c1,c2,c3]
 have w:IntKind.i64.wrap (x.hi - x.lo)=x.hi - x.lo:=wrap64 (by omega) (by omega)
 simp [c127,KL,lendF,hget,ha,hb,ne,ne2,ne3,ne4,c1,c2,c3,w]
end
end Go.Ab.Pn
/-
  The check of an atom: the program.
-/
namespace Go.Ab.Pn
open Go.Ab.Pol
set_option maxRecDepth 100000
set_option maxHeartbeats 2000000
theorem kinds {k:Int} (h0:¬ k < 0) (h6:¬ 6≤k):k=0∨k=1∨k=2∨k=3∨k=4∨k=5:=by omega
theorem ptOk_mk (k a b lo hi:Int) (n:Nat):ptOk ⟨k, a, b, lo, hi⟩ n=(decide (0≤a∧a < (n:Int)) &&
  (if k=0∨k=1 then decide (b=0∧0≤lo∧lo≤mostI∧hi=0)
   else if k=2 then decide (b=0∧0≤lo∧lo≤hi∧hi≤mostI)
   else if k=3∨k=4 then decide (0≤b∧b < (n:Int)∧a≠b∧lo=0∧hi=0)
   else decide (0≤b∧b < (n:Int)∧a≠b∧-mostI≤lo∧lo≤hi∧hi≤mostI∧hi - lo≤mostI))):=rfl
theorem f68 (x:Pt) (n:Nat) (h:Heap):(mu K).fn 68 [x.av,iV (n:Int)] h=some (.val (.int .i64 (ptE x n)) h):=by
 have k121:=fun (i:Int) (h:Heap) (a:Loc) ha=>f121 (h:=h) i (n:Int) a ha
 have k122:=fun b (h:Heap) (a a':Loc) ha hb=>f122 (h:=h) b x a a' ha hb
 have k123:=fun b (h:Heap) (a a':Loc) ha hb=>f123 (h:=h) b x a a' ha hb
 have k124:=fun b (h:Heap) (a a':Loc) ha hb=>f124 (h:=h) b x a a' ha hb
 have k125:=fun b (h:Heap) (a a':Loc) ha hb=>f125 (h:=h) b x a a' ha hb
 have k126:=fun b (h:Heap) (a a':Loc) ha hb=>f126 (h:=h) b x a a' ha hb
 have k127:=fun b (h:Heap) (a a':Loc) ha hb=>f127 (h:=h) b x a a' ha hb
 rw [fn_go (KX _ _ _) fn68 rfl (by simp [c68])]
 obtain ⟨k,a,b,lo,hi⟩:=x
 simp only at k121 k122 k123 k124 k125 k126 k127
 by_cases c0:k < 0
 ·have e:ptE ⟨k,a,b,lo,hi⟩ n=1:=by unfold ptE;rw [if_pos (.inl c0)]
  rw [e]
  by_cases cb:0≤b
  ·by_cases cb2:b < (n:Int)
   ·simp [c68,KL,lendF,hget,k121,c0,cb,cb2]
   ·simp [c68,KL,lendF,hget,k121,c0,cb,cb2]
  ·simp [c68,KL,lendF,hget,k121,c0,cb]
 by_cases c6:6≤k
 ·have e:ptE ⟨k,a,b,lo,hi⟩ n=1:=by unfold ptE;rw [if_pos (.inr c6)]
  rw [e]
  by_cases cb:0≤b
  ·by_cases cb2:b < (n:Int)
   ·simp [c68,KL,lendF,hget,k121,c0,c6,cb,cb2]
   ·simp [c68,KL,lendF,hget,k121,c0,c6,cb,cb2]
  ·simp [c68,KL,lendF,hget,k121,c0,c6,cb]
 have e:ptE ⟨k,a,b,lo,hi⟩ n=if ptOk ⟨k,a,b,lo,hi⟩ n=true then 0 else 2:=by
  unfold ptE
  rw [if_neg (by simp only;omega)]
 rw [e]
 by_cases ca:0≤a∧a < (n:Int)
 case neg=>
  have e2:ptOk ⟨k,a,b,lo,hi⟩ n=false:=by
   unfold ptOk
   simp only
   rw [decide_eq_false ca,Bool.false_and]
  have e3:(decide (0≤a) && decide (a < (n:Int)))=false:=by simpa using ca
  rw [e2]
  by_cases cb:0≤b
  ·by_cases cb2:b < (n:Int)
   ·simp [c68,KL,lendF,hget,k121,c0,c6,cb,cb2,e3]
   ·simp [c68,KL,lendF,hget,k121,c0,c6,cb,cb2,e3]
  ·simp [c68,KL,lendF,hget,k121,c0,c6,cb,e3]
 have e3:(decide (0≤a) && decide (a < (n:Int)))=true:=by simpa using ca
 have eo:∀ q:Bool,(decide (0≤a∧a < (n:Int)) && q)=q:=fun q=>by rw [decide_eq_true ca,Bool.true_and]
 rcases kinds c0 c6 with rfl | rfl | rfl | rfl | rfl | rfl
 ·obtain ⟨r,hr⟩:∃ r,r=(decide (b=0) && decide (0≤lo) && decide (lo≤mostI) && decide (hi=0)):=⟨_,rfl⟩
  have k:=k122 (decide (b=0))
  rw [←hr] at k
  have e4:ptOk ⟨0,a,b,lo,hi⟩ n=r:=by
   rw [ptOk_mk,eo,hr]
   rw [if_pos (.inl rfl)]
   rw [Bool.eq_iff_iff]
   simp only [Bool.and_eq_true,decide_eq_true_eq,and_assoc]
  rw [e4]
  by_cases cb:0≤b
  ·by_cases cb2:b < (n:Int)
   ·cases r<;>simp [c68,KL,lendF,hget,k121,k,cb,cb2,e3,ca]
   ·cases r<;>simp [c68,KL,lendF,hget,k121,k,cb,cb2,e3,ca]
  ·cases r<;>simp [c68,KL,lendF,hget,k121,k,cb,e3,ca]
 ·obtain ⟨r,hr⟩:∃ r,r=(decide (b=0) && decide (0≤lo) && decide (lo≤mostI) && decide (hi=0)):=⟨_,rfl⟩
  have k:=k123 (decide (b=0))
  rw [←hr] at k
  have e4:ptOk ⟨1,a,b,lo,hi⟩ n=r:=by
   rw [ptOk_mk,eo,hr]
   rw [if_pos (.inr rfl)]
   rw [Bool.eq_iff_iff]
   simp only [Bool.and_eq_true,decide_eq_true_eq,and_assoc]
  rw [e4]
  by_cases cb:0≤b
  ·by_cases cb2:b < (n:Int)
   ·cases r<;>simp [c68,KL,lendF,hget,k121,k,cb,cb2,e3,ca]
   ·cases r<;>simp [c68,KL,lendF,hget,k121,k,cb,cb2,e3,ca]
  ·cases r<;>simp [c68,KL,lendF,hget,k121,k,cb,e3,ca]
 ·obtain ⟨r,hr⟩:∃ r,r=(decide (b=0) && decide (0≤lo) && decide (lo≤hi) && decide (hi≤mostI)):=⟨_,rfl⟩
  have k:=k124 (decide (b=0))
  rw [←hr] at k
  have e4:ptOk ⟨2,a,b,lo,hi⟩ n=r:=by
   rw [ptOk_mk,eo,hr]
   rw [if_neg (by decide),if_pos rfl]
   rw [Bool.eq_iff_iff]
   simp only [Bool.and_eq_true,decide_eq_true_eq,and_assoc]
  rw [e4]
  by_cases cb:0≤b
  ·by_cases cb2:b < (n:Int)
   ·cases r<;>simp [c68,KL,lendF,hget,k121,k,cb,cb2,e3,ca]
   ·cases r<;>simp [c68,KL,lendF,hget,k121,k,cb,cb2,e3,ca]
  ·cases r<;>simp [c68,KL,lendF,hget,k121,k,cb,e3,ca]
 ·obtain ⟨r,hr⟩:∃ r,r=(true && decide (lo=0) && decide (hi=0)):=⟨_,rfl⟩
  have k:=k125 true
  rw [←hr] at k
  have k0:=k125 false
  simp only [Bool.false_and] at k0
  by_cases c2:(0≤b∧b < (n:Int))∧a≠b
  ·have e4:ptOk ⟨3,a,b,lo,hi⟩ n=r:=by
    rw [ptOk_mk,eo,hr]
    rw [if_neg (by decide),if_neg (by decide),if_pos (.inl rfl)]
    rw [Bool.eq_iff_iff]
    simp only [distOk,Bool.and_eq_true,decide_eq_true_eq,Bool.true_and,c2.1.1,c2.1.2,c2.2,ne_eq,not_false_eq_true,true_and]
   rw [e4]
   cases r<;>simp [c68,KL,lendF,hget,k121,k,c2.1.1,c2.1.2,c2.2,e3,ca]
  ·have e4:ptOk ⟨3,a,b,lo,hi⟩ n=false:=by
    rw [ptOk_mk,eo]
    rw [if_neg (by decide),if_neg (by decide),if_pos (.inl rfl)]
    rw [decide_eq_false_iff_not]
    rintro ⟨q1,q2,q3,_⟩
    exact c2 ⟨⟨q1,q2⟩,q3⟩
   rw [e4]
   by_cases cb:0≤b
   ·by_cases cb2:b < (n:Int)
    ·have c3:a=b:=Classical.byContradiction fun q=>c2 ⟨⟨cb,cb2⟩,q⟩
     have c4:(a=b)=True:=by simp [c3]
     simp [c68,KL,lendF,hget,k121,k0,cb,cb2,c4,e3,ca]
    ·simp [c68,KL,lendF,hget,k121,k0,cb,cb2,e3,ca]
   ·simp [c68,KL,lendF,hget,k121,k0,cb,e3,ca]
 ·obtain ⟨r,hr⟩:∃ r,r=(true && decide (lo=0) && decide (hi=0)):=⟨_,rfl⟩
  have k:=k126 true
  rw [←hr] at k
  have k0:=k126 false
  simp only [Bool.false_and] at k0
  by_cases c2:(0≤b∧b < (n:Int))∧a≠b
  ·have e4:ptOk ⟨4,a,b,lo,hi⟩ n=r:=by
    rw [ptOk_mk,eo,hr]
    rw [if_neg (by decide),if_neg (by decide),if_pos (.inr rfl)]
    rw [Bool.eq_iff_iff]
    simp only [distOk,Bool.and_eq_true,decide_eq_true_eq,Bool.true_and,c2.1.1,c2.1.2,c2.2,ne_eq,not_false_eq_true,true_and]
   rw [e4]
   cases r<;>simp [c68,KL,lendF,hget,k121,k,c2.1.1,c2.1.2,c2.2,e3,ca]
  ·have e4:ptOk ⟨4,a,b,lo,hi⟩ n=false:=by
    rw [ptOk_mk,eo]
    rw [if_neg (by decide),if_neg (by decide),if_pos (.inr rfl)]
    rw [decide_eq_false_iff_not]
    rintro ⟨q1,q2,q3,_⟩
    exact c2 ⟨⟨q1,q2⟩,q3⟩
   rw [e4]
   by_cases cb:0≤b
   ·by_cases cb2:b < (n:Int)
    ·have c3:a=b:=Classical.byContradiction fun q=>c2 ⟨⟨cb,cb2⟩,q⟩
     have c4:(a=b)=True:=by simp [c3]
     simp [c68,KL,lendF,hget,k121,k0,cb,cb2,c4,e3,ca]
    ·simp [c68,KL,lendF,hget,k121,k0,cb,cb2,e3,ca]
   ·simp [c68,KL,lendF,hget,k121,k0,cb,e3,ca]
 ·obtain ⟨r,hr⟩:∃ r,r=(true && distOk ⟨5,a,b,lo,hi⟩):=⟨_,rfl⟩
  have k:=k127 true
  rw [←hr] at k
  have k0:=k127 false
  simp only [Bool.false_and] at k0
  by_cases c2:(0≤b∧b < (n:Int))∧a≠b
  ·have e4:ptOk ⟨5,a,b,lo,hi⟩ n=r:=by
    rw [ptOk_mk,eo,hr]
    rw [if_neg (by decide),if_neg (by decide),if_neg (by decide)]
    rw [Bool.eq_iff_iff]
    simp only [distOk,Bool.and_eq_true,decide_eq_true_eq,Bool.true_and,c2.1.1,c2.1.2,c2.2,ne_eq,not_false_eq_true,true_and]
   rw [e4]
   cases r<;>simp [c68,KL,lendF,hget,k121,k,c2.1.1,c2.1.2,c2.2,e3,ca]
  ·have e4:ptOk ⟨5,a,b,lo,hi⟩ n=false:=by
    rw [ptOk_mk,eo]
    rw [if_neg (by decide),if_neg (by decide),if_neg (by decide)]
    rw [decide_eq_false_iff_not]
    rintro ⟨q1,q2,q3,_⟩
    exact c2 ⟨⟨q1,q2⟩,q3⟩
   rw [e4]
   by_cases cb:0≤b
   ·by_cases cb2:b < (n:Int)
    ·have c3:a=b:=Classical.byContradiction fun q=>c2 ⟨⟨cb,cb2⟩,q⟩
     have c4:(a=b)=True:=by simp [c3]
     simp [c68,KL,lendF,hget,k121,k0,cb,cb2,c4,e3,ca]
    ·simp [c68,KL,lendF,hget,k121,k0,cb,cb2,e3,ca]
   ·simp [c68,KL,lendF,hget,k121,k0,cb,e3,ca]
end Go.Ab.Pn
