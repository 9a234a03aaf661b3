/-
  The sizes that the statements of chapter 44 name; Field of the reference.
-/
import Derived.Test.YtfpmflgjbpnkjaaAb41P13
import Derived.Test.YtfpmflgjbpnkjaaAb41P6
import Derived.Test.YtfpmflgjbpnkjaaAb41P16
import Derived.Test.YtfpmflgjbpnkjaaAb41P18b
import Derived.Test.YtfpmflgjbpnkjaaAb41P10
import Derived.Test.YtfpmflgjbpnkjaaAbTidy
set_option linter.unusedVariables false
set_option linter.unusedSimpArgs false
set_option linter.unusedSectionVars false
namespace Go.Ab.Pl
open Go.Ab.Pol
set_option maxRecDepth 100000
set_option maxHeartbeats 1000000
theorem f43 (p:Po) (hp:Sz p) (l:Sl Sc) (hl:okL l) (t:Tr) (ht:chk p=0→Pol.Good p t) (h:Heap) :
  (mu K).fn 43 [p.av,l.avS Sc.av] h=some (.val (.bool (decide ((typT p l.l t).1=0) && decide ((typT p l.l t).2=0))) h):=by
 have k:=fun h=>f38 p hp l hl t ht h
 rw [fn_go (KX _ _ _) fn43 rfl (by simp [c43])]
 generalize typT p l.l t=q at *
 obtain ⟨a,e⟩:=q
 by_cases a0:a=0
 ·by_cases e0:e=0
  ·have d1:(a=0)=True:=by simp [a0]
   have d2:(e=0)=True:=by simp [e0]
   simp [c43,KL,lendF,k,d1,d2]
  ·have d1:(a=0)=True:=by simp [a0]
   simp [c43,KL,lendF,k,d1,e0]
 ·simp [c43,KL,lendF,k,a0]
/- Sizes. -/
theorem any_all {α:Type} (pr:α→Bool):∀ l:List α,l.any pr=!l.all fun x=>!pr x
 | []=>rfl
 | x :: l=>by simp only [List.any_cons,List.all_cons,any_all pr l];cases pr x<;>simp
def bigF (f:Pol.Fd):Bool:=decide (70 < f.words.l.length) || decide (80 < f.name.length)
def bigS (s:Sc):Bool:=decide (20 < s.fields.l.length) || decide (80 < s.name.length) || s.fields.l.any bigF
def fewN (x:Nd):Bool:=decide (x.kids.l.length≤20) && decide (x.nm.length≤80) && decide (x.attr.length≤80)
def few44 (p:Po) (l:List Sc):Bool:=decide (p.nodes.l.length≤40) && decide (p.uses.l.length≤8) && decide (p.reveal.l.length≤20) && decide (l.length≤8) && p.nodes.l.all fewN && !l.any bigS
theorem f89 (f:Pol.Fd) (h:Heap):(mu K).fn 89 [f.av] h=some (.val (.bool (bigF f)) h):=by
 rw [fn_go (KX _ _ _) fn89 rfl (by simp [c89])]
 unfold bigF
 by_cases c1:70 < f.words.l.length
 ·have d1:((70:Int) < (f.words.l.length:Int))=True:=by simp;omega
  simp [c89,KL,lendF,c1,d1]
 have d1:((70:Int) < (f.words.l.length:Int))=False:=by simp;omega
 by_cases c2:80 < f.name.length
 ·have d2:((80:Int) < (f.name.length:Int))=True:=by simp;omega
  simp [c89,KL,lendF,c1,d1,c2,d2]
 ·have d2:((80:Int) < (f.name.length:Int))=False:=by simp;omega
  simp [c89,KL,lendF,c1,d1,c2,d2]
theorem f88 (s:Sl Pol.Fd) (hs:s.l.length≤1000) (h:Heap):(mu K).fn 88 [s.avS Fd.av,.fn (.func 89) [] []] h=some (.val (.bool (s.l.any bigF)) h):=by
 have k126:∀ h:Heap,∃ i:Int,(mu K).fn 126 [s.avS Fd.av,.fn (.func 89) [] []] h=some (.val (.int .i64 i) h)∧decide (0≤i)=s.l.any bigF:=fun h=>by
  have key:=loop_iter (K:=K) (n:=0) (live:=[0,1,7,8]) (a:=l126_0) (fun (_:Unit) (x:Pol.Fd)=>if (!bigF x)=true then (.inl ():Unit ⊕ Unit) else .inr ())
   (fun pre b=>⟨[(0,s.avS Fd.av),(1,.fn (.func 89) [] []),(7,.int .i64 (s.l.length:Int)),(8,.int .i64 (pre.length:Int))],[] :: h⟩) (fun pre b=>True)
   (fun b o=>∃ env,o=some (.exit 0,⟨env,[] :: h⟩)) (fun k o=>∃ env i,o=some (.ret,⟨env,[] :: h⟩)∧get env 4=.int .i64 i∧0≤i) s.l
   (fun pre x r b hl hb=>by
    obtain ⟨h1,h2,w1⟩:=idx_facts hl (by omega)
    have hix:=fun (k:IntKind)=>iaF_sl (av:=Fd.av) (sz:=5) (s:=s) (k:=k) (j:=(pre.length:Int)) (x:=x) (by omega) (by simpa using h2) rfl
    have k:=fun h=>f89 x h
    rw [loop_go]
    generalize (mu K).code (.loopAt 0 [0,1,7,8] l126_0)=F
    clear hl
    cases e:bigF x
    ·simp [l126_0,KL,lendF,h1,hix,w1,k,e]
    ·simp [l126_0,KL,lendF,h1,hix,w1,k,e])
   (fun b _=>by
    rw [loop_go]
    generalize (mu K).code (.loopAt 0 [0,1,7,8] l126_0)=F
    simp [l126_0]) () trivial
  simp only [List.length_nil,Int.natCast_zero] at key
  rw [fn_go (KX _ _ _) fn126 rfl (by simp [c126])]
  rw [any_all]
  cases hm:s.l.all fun x=>!bigF x
  ·rw [(iter_all (fun x:Pol.Fd=>!bigF x) s.l).2 hm] at key
   obtain ⟨env,i,k,g4,hi⟩:=key
   exact ⟨i,by simp [c126,KL,lendF,k,g4],by simp [hi]⟩
  ·rw [(iter_all (fun x:Pol.Fd=>!bigF x) s.l).1 hm] at key
   obtain ⟨_,env,k⟩:=key
   exact ⟨-1,by simp [c126,KL,lendF,k],by simp⟩
 obtain ⟨i,k,hi⟩:=k126 ([] :: h)
 rw [fn_go (KX _ _ _) fn88 rfl (by simp [c88])]
 rw [←hi]
 simp [c88,KL,lendF,k]
theorem f87 (s:Sc) (h:Heap):(mu K).fn 87 [s.av] h=some (.val (.bool (bigS s)) h):=by
 rw [fn_go (KX _ _ _) fn87 rfl (by simp [c87])]
 unfold bigS
 by_cases c1:20 < s.fields.l.length
 ·have d1:((20:Int) < (s.fields.l.length:Int))=True:=by simp;omega
  simp [c87,KL,lendF,c1,d1]
 have d1:((20:Int) < (s.fields.l.length:Int))=False:=by simp;omega
 have k:=fun h=>f88 s.fields (by omega) h
 by_cases c2:80 < s.name.length
 ·have d2:((80:Int) < (s.name.length:Int))=True:=by simp;omega
  simp [c87,KL,lendF,c1,d1,c2,d2]
 ·have d2:((80:Int) < (s.name.length:Int))=False:=by simp;omega
  generalize s.fields.l.any bigF=b at *
  simp [c87,KL,lendF,c1,d1,c2,d2,k]
theorem f44 (g:FuncId) (pr:Sc→Bool) (hg:∀ x h,(mu K).fn g [x.av] h=some (.val (.bool (pr x)) h)) (s:Sl Sc) (hs:s.l.length≤1000) (h:Heap):(mu K).fn 44 [s.avS Sc.av,.fn (.func g) [] []] h=some (.val (.bool (s.l.any pr)) h):=by
 have k100:∀ h:Heap,∃ i:Int,(mu K).fn 100 [s.avS Sc.av,.fn (.func g) [] []] h=some (.val (.int .i64 i) h)∧decide (0≤i)=s.l.any pr:=fun h=>by
  have key:=loop_iter (K:=K) (n:=0) (live:=[0,1,7,8]) (a:=l100_0) (fun (_:Unit) (x:Sc)=>if (!pr x)=true then (.inl ():Unit ⊕ Unit) else .inr ())
   (fun pre b=>⟨[(0,s.avS Sc.av),(1,.fn (.func g) [] []),(7,.int .i64 (s.l.length:Int)),(8,.int .i64 (pre.length:Int))],[] :: h⟩) (fun pre b=>True)
   (fun b o=>∃ env,o=some (.exit 0,⟨env,[] :: h⟩)) (fun k o=>∃ env i,o=some (.ret,⟨env,[] :: h⟩)∧get env 4=.int .i64 i∧0≤i) s.l
   (fun pre x r b hl hb=>by
    obtain ⟨h1,h2,w1⟩:=idx_facts hl (by omega)
    have hix:=fun (k:IntKind)=>iaF_sl (av:=Sc.av) (sz:=2) (s:=s) (k:=k) (j:=(pre.length:Int)) (x:=x) (by omega) (by simpa using h2) rfl
    have k:=fun h=>hg x h
    rw [loop_go]
    generalize (mu K).code (.loopAt 0 [0,1,7,8] l100_0)=F
    clear hl
    cases e:pr x
    ·simp [l100_0,KL,lendF,h1,hix,w1,k,e]
    ·simp [l100_0,KL,lendF,h1,hix,w1,k,e])
   (fun b _=>by
    rw [loop_go]
    generalize (mu K).code (.loopAt 0 [0,1,7,8] l100_0)=F
    simp [l100_0]) () trivial
  simp only [List.length_nil,Int.natCast_zero] at key
  rw [fn_go (KX _ _ _) fn100 rfl (by simp [c100])]
  rw [any_all]
  cases hm:s.l.all fun x=>!pr x
  ·rw [(iter_all (fun x:Sc=>!pr x) s.l).2 hm] at key
   obtain ⟨env,i,k,g4,hi⟩:=key
   exact ⟨i,by simp [c100,KL,lendF,k,g4],by simp [hi]⟩
  ·rw [(iter_all (fun x:Sc=>!pr x) s.l).1 hm] at key
   obtain ⟨_,env,k⟩:=key
   exact ⟨-1,by simp [c100,KL,lendF,k],by simp⟩
 obtain ⟨i,k,hi⟩:=k100 ([] :: h)
 rw [fn_go (KX _ _ _) fn44 rfl (by simp [c44])]
 rw [←hi]
 simp [c44,KL,lendF,k]
theorem f36 (p:Po) (l:Sl Sc) (h:Heap):(mu K).fn 36 [p.av,l.avS Sc.av] h=some (.val (.bool (few44 p l.l)) h):=by
 rw [fn_go (KX _ _ _) fn36 rfl (by simp [c36])]
 unfold few44
 by_cases c1:p.nodes.l.length≤40
 case neg=>
  have d1:((40:Int) < (p.nodes.l.length:Int))=True:=by simp;omega
  simp [c36,KL,lendF,c1,d1]
 have d1:((40:Int) < (p.nodes.l.length:Int))=False:=by simp;omega
 by_cases c2:p.uses.l.length≤8
 case neg=>
  have d2:((8:Int) < (p.uses.l.length:Int))=True:=by simp;omega
  simp [c36,KL,lendF,c1,d1,c2,d2]
 have d2:((8:Int) < (p.uses.l.length:Int))=False:=by simp;omega
 by_cases c3:p.reveal.l.length≤20
 case neg=>
  have d3:((20:Int) < (p.reveal.l.length:Int))=True:=by simp;omega
  simp [c36,KL,lendF,c1,d1,c2,d2,c3,d3]
 have d3:((20:Int) < (p.reveal.l.length:Int))=False:=by simp;omega
 by_cases c4:l.l.length≤8
 case neg=>
  have d4:((8:Int) < (l.l.length:Int))=True:=by simp;omega
  simp [c36,KL,lendF,c1,d1,c2,d2,c3,d3,c4,d4]
 have d4:((8:Int) < (l.l.length:Int))=False:=by simp;omega
 have key:=loop_iter (K:=K) (n:=1) (live:=[1,29,30,31]) (a:=l36_0) (fun (_:Unit) (x:Nd)=>if fewN x=true then (.inl ():Unit ⊕ Unit) else .inr ())
  (fun pre b=>⟨[(1,l.avS Sc.av),(29,p.nodes.avS Nd.av),(30,.int .i64 (p.nodes.l.length:Int)),(31,.int .i64 (pre.length:Int))],[.box 26 false p.av] :: h⟩) (fun pre b=>True)
  (fun b o=>∃ env,o=some (.exit 0,⟨env,[.box 26 false p.av] :: h⟩)∧get env 1=l.avS Sc.av) (fun k o=>∃ env R,o=some (.ret,⟨env,R :: h⟩)∧get env 4=.bool false) p.nodes.l
  (fun pre x r b hl hb=>by
   obtain ⟨h1,h2,w1⟩:=idx_facts hl (by omega)
   have hix:=fun (k:IntKind)=>iaF_sl (av:=Nd.av) (sz:=6) (s:=p.nodes) (k:=k) (j:=(pre.length:Int)) (x:=x) (by omega) (by simpa using h2) rfl
   rw [loop_go]
   generalize (mu K).code (.loopAt 1 [1,29,30,31] l36_0)=F
   clear hl
   unfold fewN
   by_cases e1:x.kids.l.length≤20
   case neg=>
    have v1:((20:Int) < (x.kids.l.length:Int))=True:=by simp;omega
    simp [l36_0,KL,lendF,h1,hix,w1,e1,v1]
   have v1:((20:Int) < (x.kids.l.length:Int))=False:=by simp;omega
   by_cases e2:x.nm.length≤80
   case neg=>
    have v2:((80:Int) < (x.nm.length:Int))=True:=by simp;omega
    simp [l36_0,KL,lendF,h1,hix,w1,e1,v1,e2,v2]
   have v2:((80:Int) < (x.nm.length:Int))=False:=by simp;omega
   by_cases e3:x.attr.length≤80
   case neg=>
    have v3:((80:Int) < (x.attr.length:Int))=True:=by simp;omega
    simp [l36_0,KL,lendF,h1,hix,w1,e1,v1,e2,v2,e3,v3]
   have v3:((80:Int) < (x.attr.length:Int))=False:=by simp;omega
   simp [l36_0,KL,lendF,h1,hix,w1,e1,v1,e2,v2,e3,v3])
  (fun b _=>by
   rw [loop_go]
   generalize (mu K).code (.loopAt 1 [1,29,30,31] l36_0)=F
   simp [l36_0]) () trivial
 simp only [List.length_nil,Int.natCast_zero] at key
 have k44:=fun h=>f44 87 bigS f87 l (by omega) h
 cases c5:p.nodes.l.all fewN
 ·rw [(iter_all fewN p.nodes.l).2 c5] at key
  obtain ⟨env,R,k,g4⟩:=key
  simp [c36,KL,lendF,c1,d1,c2,d2,c3,d3,c4,d4,k,g4]
 ·rw [(iter_all fewN p.nodes.l).1 c5] at key
  obtain ⟨_,env,k,g1⟩:=key
  generalize l.l.any bigS=b at *
  simp [c36,KL,lendF,c1,d1,c2,d2,c3,d3,c4,d4,k,g1,k44]
end Go.Ab.Pl
