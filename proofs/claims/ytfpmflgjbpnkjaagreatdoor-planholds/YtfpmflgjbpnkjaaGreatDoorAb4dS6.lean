/-
  The statements of chapter 47 on the evaluator: atoms.
-/
import Derived.Test.YtfpmflgjbpnkjaaGreatDoorAb4dS5
import Derived.Test.YtfpmflgjbpnkjaaGreatDoorAb4dT3
import Derived.Test.YtfpmflgjbpnkjaaGreatDoorAb4dB
set_option linter.unusedVariables false
set_option linter.unusedSimpArgs false
set_option linter.unusedSectionVars false
namespace Go.Ab.Pn
open Go.Ab.Pol
set_option maxRecDepth 100000
set_option maxHeartbeats 4000000
def bigV (v:Int):Bool:=decide (1099511627776 < v) || decide (v < -1099511627776)
theorem l5_ok (x:Pt) (vs:Sl Int) (hl:vs.l.length≤80):match iter (fun (_:Unit) (v:Int)=>if bigV v=true then .inr () else (.inl ():Unit ⊕ Unit)) () vs.l with
  | .inl _=>∃ env,(mu K4).code (.loopAt 1 [1,2,5] l5_0) ⟨[(1,vs.avS iV),(2,.ptr (0,0) 0),(5,iV 0)],[[.box 56 false x.av]]⟩=some (.exit 0,⟨env,[[.box 56 false x.av]]⟩)∧get env 1=vs.avS iV∧get env 2=.ptr (0,0) 0
  | .inr _=>∃ env,(mu K4).code (.loopAt 1 [1,2,5] l5_0) ⟨[(1,vs.avS iV),(2,.ptr (0,0) 0),(5,iV 0)],[[.box 56 false x.av]]⟩=some (.ret,⟨env,[[.box 56 false x.av]]⟩)∧get env 4=.bool true:=by
 have aw:=awake47
 have key:=loop_iter (K:=K4) (n:=1) (live:=[1,2,5]) (a:=l5_0) (fun (_:Unit) (v:Int)=>if bigV v=true then .inr () else (.inl ():Unit ⊕ Unit))
  (fun pre b=>⟨[(1,vs.avS iV),(2,.ptr (0,0) 0),(5,iV (pre.length:Int))],[[.box 56 false x.av]]⟩) (fun pre b=>True)
  (fun b o=>∃ env,o=some (.exit 0,⟨env,[[.box 56 false x.av]]⟩)∧get env 1=vs.avS iV∧get env 2=.ptr (0,0) 0) (fun k o=>∃ env,o=some (.ret,⟨env,[[.box 56 false x.av]]⟩)∧get env 4=.bool true) vs.l
  (fun pre v r b hl hb=>by
   obtain ⟨h1,h2,w1⟩:=idx_facts hl (by omega)
   have hix:=fun (k:IntKind)=>iaF_sl (av:=iV) (sz:=1) (s:=vs) (k:=k) (j:=(pre.length:Int)) (x:=v) (by omega) (by simpa using h2) rfl
   rw [loop_go]
   generalize (mu K4).code (.loopAt 1 [1,2,5] l5_0)=F
   clear hl
   unfold bigV
   by_cases c1:1099511627776 < v
   ·simp [l5_0,KL4,lendF,h1,hix,w1,c1,aw]
   ·by_cases c2:v < -1099511627776
    ·simp [l5_0,KL4,lendF,h1,hix,w1,c1,c2,aw]
    ·simp [l5_0,KL4,lendF,h1,hix,w1,c1,c2])
  (fun b _=>by
   rw [loop_go]
   generalize (mu K4).code (.loopAt 1 [1,2,5] l5_0)=F
   simp [l5_0]) () trivial
 simp only [List.length_nil,Int.natCast_zero] at key
 generalize iter (fun (_:Unit) (v:Int)=>if bigV v=true then .inr () else (.inl ():Unit ⊕ Unit)) () vs.l=r at key ⊢
 cases r with
 | inl b=>exact key.2
 | inr b=>exact key
theorem law5 (x:Pt) (hx:aPt x) (vs:Sl Int):(mu K4).fn 5 [x.av,vs.avS iV] []=some (.val (.bool true) []):=by
 have k18:=fun h=>up4 (f18 x hx h)
 have k19:=fun h=>up4 (f19 x hx h)
 have k20:=fun h=>up4 (f20 x vs h)
 have k21:=fun h=>up4 (f21 x vs h)
 have aw:=awake47
 rw [fn_go (KX4 _ _ _) (fnk4 fn5) rfl (by simp [c5])]
 by_cases c:80 < vs.l.length
 ·have c':(80:Int) < (vs.l.length:Int):=by omega
  simp [c5,KL4,lendF,aw,c,c']
 have c':¬ (80:Int) < (vs.l.length:Int):=by omega
 have key:=l5_ok x vs (by omega)
 generalize iter (fun (_:Unit) (v:Int)=>if bigV v=true then .inr () else (.inl ():Unit ⊕ Unit)) () vs.l=r at key
 cases r with
 | inl b=>
  obtain ⟨env,e1,g1,g2⟩:=key
  cases hb:ptH x vs.l<;>rw [hb] at k20 k21<;>simp [c5,KL4,lendF,aw,c,c',e1,g1,g2,k18,k19,k20,k21]
 | inr b=>
  obtain ⟨env,e1,g4⟩:=key
  simp [c5,KL4,lendF,aw,c,c',e1,g4]
theorem aPt_of {x:Pt} (o:bPt x):aPt x:=⟨okI_64 o.kind,okI_64 o.a,okI_64 o.b,okI_64 o.lo,okI_64 o.hi⟩
theorem law5a (x:Pt) (o:bPt x) (vs:Sl Int):(mu K4).fn 5 [x.av,vs.avS iV] []=some (.val (.bool true) []):=law5 x (aPt_of o) vs
end Go.Ab.Pn
