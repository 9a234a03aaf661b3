/-
  What an atom says; its width; program and reference.
-/
import Derived.Test.YtfpmflgjbpnkjaaGreatDoorAb4dS3
set_option linter.unusedVariables false
set_option linter.unusedSimpArgs false
set_option linter.unusedSectionVars false
namespace Go.Ab.Pn
open Go.Ab.Pol
set_option maxRecDepth 100000
set_option maxHeartbeats 4000000
section
variable {h:Heap}
theorem f59 (x:Pt) (v:Int) (a a':Loc) (ha:hget h a=some (.box 3 false (iV v))) (hb:hget h a'=some (.box 56 false x.av)):(mu K).fn 59 [.ptr a 0,.ptr a' 0] h=some (.val (.bool (decide (v=x.lo))) h):=by
 obtain ⟨ne,ne2⟩:=lt_of ha
 obtain ⟨ne3,ne4⟩:=lt_of hb
 rw [fn_go (KX _ _ _) fn59 rfl (by simp [c59])]
 simp [c59,KL,lendF,hget,ha,hb,ne,ne2,ne3,ne4]
theorem f60 (x:Pt) (v:Int) (a a':Loc) (ha:hget h a=some (.box 3 false (iV v))) (hb:hget h a'=some (.box 56 false x.av)):(mu K).fn 60 [.ptr a 0,.ptr a' 0] h=some (.val (.bool (decide (v≠x.lo))) h):=by
 obtain ⟨ne,ne2⟩:=lt_of ha
 obtain ⟨ne3,ne4⟩:=lt_of hb
 rw [fn_go (KX _ _ _) fn60 rfl (by simp [c60])]
 simp [c60,KL,lendF,hget,ha,hb,ne,ne2,ne3,ne4]
theorem f61 (x:Pt) (v:Int) (a a':Loc) (ha:hget h a=some (.box 3 false (iV v))) (hb:hget h a'=some (.box 56 false x.av)):(mu K).fn 61 [.ptr a' 0,.ptr a 0] h=some (.val (.bool (decide (x.lo≤v∧v≤x.hi))) h):=by
 obtain ⟨ne,ne2⟩:=lt_of ha
 obtain ⟨ne3,ne4⟩:=lt_of hb
 rw [fn_go (KX _ _ _) fn61 rfl (by simp [c61])]
 by_cases c:x.lo≤v
 ·simp [c61,KL,lendF,hget,ha,hb,ne,ne2,ne3,ne4,c]
 ·simp [c61,KL,lendF,hget,ha,hb,ne,ne2,ne3,ne4,c]
theorem f62 (v u:Int) (a a':Loc) (ha:hget h a=some (.box 3 false (iV v))) (hb:hget h a'=some (.box 3 false (iV u))):(mu K).fn 62 [.ptr a 0,.ptr a' 0] h=some (.val (.bool (decide (v=u))) h):=by
 obtain ⟨ne,ne2⟩:=lt_of ha
 obtain ⟨ne3,ne4⟩:=lt_of hb
 rw [fn_go (KX _ _ _) fn62 rfl (by simp [c62])]
 simp [c62,KL,lendF,hget,ha,hb,ne,ne2,ne3,ne4]
theorem f63 (v u:Int) (a a':Loc) (ha:hget h a=some (.box 3 false (iV v))) (hb:hget h a'=some (.box 3 false (iV u))):(mu K).fn 63 [.ptr a 0,.ptr a' 0] h=some (.val (.bool (decide (v≠u))) h):=by
 obtain ⟨ne,ne2⟩:=lt_of ha
 obtain ⟨ne3,ne4⟩:=lt_of hb
 rw [fn_go (KX _ _ _) fn63 rfl (by simp [c63])]
 simp [c63,KL,lendF,hget,ha,hb,ne,ne2,ne3,ne4]
theorem f64 (x:Pt) (v u:Int) (a a' b:Loc) (ha:hget h a=some (.box 3 false (iV v))) (hb:hget h a'=some (.box 3 false (iV u))) (hc:hget h b=some (.box 56 false x.av)):(mu K).fn 64 [.ptr b 0,.ptr a 0,.ptr a' 0] h=some (.val (.bool (decide (x.lo≤sub64 v u∧sub64 v u≤x.hi))) h):=by
 obtain ⟨ne,ne2⟩:=lt_of ha
 obtain ⟨ne3,ne4⟩:=lt_of hb
 obtain ⟨ne5,ne6⟩:=lt_of hc
 rw [fn_go (KX _ _ _) fn64 rfl (by simp [c64])]
 have w:IntKind.i64.wrap (v - u)=sub64 v u:=rfl
 by_cases c:x.lo≤sub64 v u
 ·simp [c64,KL,lendF,hget,ha,hb,hc,ne,ne2,ne3,ne4,ne5,ne6,w,c]
 ·simp [c64,KL,lendF,hget,ha,hb,hc,ne,ne2,ne3,ne4,ne5,ne6,w,c]
end
theorem ptH_bad {x:Pt} {vs:List Int} (c:x.kind < 0∨6≤x.kind∨x.a < 0∨(vs.length:Int)≤x.a):ptH x vs=false:=by unfold ptH;rw [if_pos c]
theorem ptH_bad2 {x:Pt} {vs:List Int} (c:3≤x.kind∧(x.b < 0∨(vs.length:Int)≤x.b)):ptH x vs=false:=by
 unfold ptH
 by_cases c1:x.kind < 0∨6≤x.kind∨x.a < 0∨(vs.length:Int)≤x.a
 ·rw [if_pos c1]
 ·rw [if_neg c1,if_pos c]
theorem ptH_ok {x:Pt} {vs:List Int} (c:¬ (x.kind < 0∨6≤x.kind∨x.a < 0∨(vs.length:Int)≤x.a)) (c2:¬ (3≤x.kind∧(x.b < 0∨(vs.length:Int)≤x.b))):ptH x vs=ptSay x (vs.getD x.a.toNat 0) (vs.getD x.b.toNat 0):=by
 unfold ptH
 rw [if_neg c,if_neg c2]
theorem vs_at {vs:Sl Int} {a:Int} (h0:0≤a) (h1:a < (vs.l.length:Int)):∀ (k:IntKind),iaF 1 (vs.avS iV) (.int k a)=some (.iptr (iV (vs.l.getD a.toNat 0)) 0):=fun k=>by
 refine iaF_sl (av:=iV) (x:=vs.l.getD a.toNat 0) h0 ?_ rfl
 rw [List.getD_eq_getElem?_getD,List.getElem?_eq_getElem (by omega)]
 rfl
theorem f20 (x:Pt) (vs:Sl Int) (h:Heap):(mu K).fn 20 [x.av,vs.avS iV] h=some (.val (.bool (ptH x vs.l)) h):=by
 have k59:=fun (v:Int) (h:Heap) (a a':Loc) ha hb=>f59 (h:=h) x v a a' ha hb
 have k60:=fun (v:Int) (h:Heap) (a a':Loc) ha hb=>f60 (h:=h) x v a a' ha hb
 have k61:=fun (v:Int) (h:Heap) (a a':Loc) ha hb=>f61 (h:=h) x v a a' ha hb
 have k62:=fun (v u:Int) (h:Heap) (a a':Loc) ha hb=>f62 (h:=h) v u a a' ha hb
 have k63:=fun (v u:Int) (h:Heap) (a a':Loc) ha hb=>f63 (h:=h) v u a a' ha hb
 have k64:=fun (v u:Int) (h:Heap) (a a' b:Loc) ha hb hc=>f64 (h:=h) x v u a a' b ha hb hc
 rw [fn_go (KX _ _ _) fn20 rfl (by simp [c20])]
 obtain ⟨k,a,b,lo,hi⟩:=x
 simp only at k59 k60 k61 k62 k63 k64
 by_cases c0:k < 0
 ·rw [ptH_bad (.inl c0)];simp [c20,KL,lendF,hget,c0]
 by_cases c6:6≤k
 ·rw [ptH_bad (.inr (.inl c6))];simp [c20,KL,lendF,hget,c0,c6]
 by_cases ca:a < 0
 ·rw [ptH_bad (.inr (.inr (.inl ca)))];simp [c20,KL,lendF,hget,c0,c6,ca]
 by_cases ca2:(vs.l.length:Int)≤a
 ·rw [ptH_bad (.inr (.inr (.inr ca2)))];simp [c20,KL,lendF,hget,c0,c6,ca,ca2]
 have ix:=vs_at (vs:=vs) (a:=a) (by omega) (by omega)
 have cc:¬ (k < 0∨6≤k∨a < 0∨(vs.l.length:Int)≤a):=by omega
 by_cases c3:3≤k
 ·by_cases cb:b < 0
  ·rw [ptH_bad2 ⟨c3,.inl cb⟩];simp [c20,KL,lendF,hget,c0,c6,ca,ca2,ix,c3,cb]
  by_cases cb2:(vs.l.length:Int)≤b
  ·rw [ptH_bad2 ⟨c3,.inr cb2⟩];simp [c20,KL,lendF,hget,c0,c6,ca,ca2,ix,c3,cb,cb2]
  have iy:=vs_at (vs:=vs) (a:=b) (by omega) (by omega)
  rw [ptH_ok cc (by simp only;omega)]
  generalize vs.l.getD a.toNat 0=X at *
  generalize vs.l.getD b.toNat 0=Y at *
  rcases kinds c0 c6 with rfl | rfl | rfl | rfl | rfl | rfl
  ·omega
  ·omega
  ·omega
  all_goals simp [c20,KL,lendF,hget,ca,ca2,ix,cb,cb2,iy,k62,k63,k64,ptSay]
 ·rw [ptH_ok cc (by simp only;omega)]
  generalize vs.l.getD a.toNat 0=X at *
  generalize vs.l.getD b.toNat 0=Y at *
  rcases kinds c0 c6 with rfl | rfl | rfl | rfl | rfl | rfl
  case inr.inr.inr.inl=>omega
  case inr.inr.inr.inr.inl=>omega
  case inr.inr.inr.inr.inr=>omega
  all_goals simp [c20,KL,lendF,hget,ca,ca2,ix,k59,k60,k61,ptSay]
theorem f21 (x:Pt) (vs:Sl Int) (h:Heap):(mu K).fn 21 [x.av,vs.avS iV] h=some (.val (.bool (ptH x vs.l)) h):=by
 rw [fn_go (KX _ _ _) fn21 rfl (by simp [c21])]
 obtain ⟨k,a,b,lo,hi⟩:=x
 by_cases ca:a < 0
 ·rw [ptH_bad (.inr (.inr (.inl ca)))];simp [c21,KL,lendF,ca]
 by_cases ca2:(vs.l.length:Int)≤a
 ·rw [ptH_bad (.inr (.inr (.inr ca2)))];simp [c21,KL,lendF,ca,ca2]
 have ix:=vs_at (vs:=vs) (a:=a) (by omega) (by omega)
 by_cases ck:k=0∨k=1∨k=2
 ·rw [ptH_ok (by simp only;omega) (by simp only;omega)]
  generalize vs.l.getD a.toNat 0=X at *
  generalize vs.l.getD b.toNat 0=Y at *
  rcases ck with rfl | rfl | rfl
  ·simp [c21,KL,lendF,ca,ca2,ix,ptSay]
  ·simp [c21,KL,lendF,ca,ca2,ix,ptSay]
  ·by_cases cl:lo≤X
   ·simp [c21,KL,lendF,ca,ca2,ix,ptSay,cl]
   ·simp [c21,KL,lendF,ca,ca2,ix,ptSay,cl]
 have n0:(k=0)=False:=by simp;omega
 have n1:(k=1)=False:=by simp;omega
 have n2:(k=2)=False:=by simp;omega
 by_cases cb:b < 0
 ·have e:ptH ⟨k,a,b,lo,hi⟩ vs.l=false:=by
   by_cases c3:3≤k
   ·exact ptH_bad2 ⟨c3,.inl cb⟩
   ·exact ptH_bad (.inl (by simp only;omega))
  rw [e];simp [c21,KL,lendF,ca,ca2,ix,n0,n1,n2,cb]
 by_cases cb2:(vs.l.length:Int)≤b
 ·have e:ptH ⟨k,a,b,lo,hi⟩ vs.l=false:=by
   by_cases c3:3≤k
   ·exact ptH_bad2 ⟨c3,.inr cb2⟩
   ·exact ptH_bad (.inl (by simp only;omega))
  rw [e];simp [c21,KL,lendF,ca,ca2,ix,n0,n1,n2,cb,cb2]
 have iy:=vs_at (vs:=vs) (a:=b) (by omega) (by omega)
 by_cases ck2:k=3∨k=4∨k=5
 ·rw [ptH_ok (by simp only;omega) (by simp only;omega)]
  generalize vs.l.getD a.toNat 0=X at *
  generalize vs.l.getD b.toNat 0=Y at *
  have w:IntKind.i64.wrap (X - Y)=sub64 X Y:=rfl
  rcases ck2 with rfl | rfl | rfl
  ·simp [c21,KL,lendF,ca,ca2,ix,cb,cb2,iy,ptSay]
  ·simp [c21,KL,lendF,ca,ca2,ix,cb,cb2,iy,ptSay]
  ·by_cases cl:lo≤sub64 X Y
   ·simp [c21,KL,lendF,ca,ca2,ix,cb,cb2,iy,ptSay,w,cl]
   ·simp [c21,KL,lendF,ca,ca2,ix,cb,cb2,iy,ptSay,w,cl]
 have n3:(k=3)=False:=by simp;omega
 have n4:(k=4)=False:=by simp;omega
 have n5:(k=5)=False:=by simp;omega
 have e:ptH ⟨k,a,b,lo,hi⟩ vs.l=false:=ptH_bad (by simp only;omega)
 rw [e]
 simp [c21,KL,lendF,ca,ca2,ix,n0,n1,n2,n3,n4,n5,cb,cb2,iy]
end Go.Ab.Pn
