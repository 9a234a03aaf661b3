/-
  The statements of chapter 45: few and small.
-/
import Derived.Test.YtfpmflgjbpnkjaaAb41P59
import Derived.Test.YtfpmflgjbpnkjaaAb41P35
set_option linter.unusedVariables false
set_option linter.unusedSimpArgs false
set_option linter.unusedSectionVars false
namespace Go.Ab.Pl
open Go.Ab.Pol
set_option maxRecDepth 100000
set_option maxHeartbeats 4000000
def shW (w:Bs):Bool:=decide (w.length≤60)
def shF (f:Pol.Fd):Bool:=decide (f.name.length≤60) && decide (f.words.l.length≤40) && f.words.l.all shW
def shS (s:Sc):Bool:=decide (s.name.length≤60) && decide (s.fields.l.length≤20) && s.fields.l.all shF
def shL (l:List Sc):Bool:=(l.take 10).all shS && decide (l.length≤6)
theorem l102_0_ok (l:Sl Sc) (i k:Nat) (f:Pol.Fd) (hf:f.words.l.length≤1000) (h:Heap) :
  (f.words.l.all shW=true→∃ env,(mu K).code (.loopAt 1 [0,3,4,5,6] l102_0) ⟨[(0,l.avS Sc.av),(3,iV (i:Int)),(4,iV (k:Int)),(5,.ptr (h.length,0) 0),(6,iV 0)],[.box 57 false f.av] :: h⟩=some (.exit 4,⟨env,[.box 57 false f.av] :: h⟩)∧get env 0=l.avS Sc.av∧get env 3=iV (i:Int)∧get env 4=iV (k:Int)) ∧
  (f.words.l.all shW=false→∃ env,(mu K).code (.loopAt 1 [0,3,4,5,6] l102_0) ⟨[(0,l.avS Sc.av),(3,iV (i:Int)),(4,iV (k:Int)),(5,.ptr (h.length,0) 0),(6,iV 0)],[.box 57 false f.av] :: h⟩=some (.ret,⟨env,[.box 57 false f.av] :: h⟩)∧get env 2=.bool false):=by
 have q2:=beq_avS _ beq_strS f.words
 have key:=loop_iter (K:=K) (n:=1) (live:=[0,3,4,5,6]) (a:=l102_0) (fun (_:Unit) (w:Bs)=>if shW w=true then (.inl ():Unit ⊕ Unit) else .inr ())
  (fun pre _=>⟨[(0,l.avS Sc.av),(3,iV (i:Int)),(4,iV (k:Int)),(5,.ptr (h.length,0) 0),(6,iV (pre.length:Int))],[.box 57 false f.av] :: h⟩) (fun _ _=>True)
  (fun _ o=>∃ env,o=some (.exit 4,⟨env,[.box 57 false f.av] :: h⟩)∧get env 0=l.avS Sc.av∧get env 3=iV (i:Int)∧get env 4=iV (k:Int))
  (fun _ o=>∃ env,o=some (.ret,⟨env,[.box 57 false f.av] :: h⟩)∧get env 2=.bool false) f.words.l
  (fun pre x r b hl' hb=>by
   obtain ⟨h1,h2,w1⟩:=idx_facts hl' (by omega)
   have hix:=fun (k:IntKind)=>iaF_sl (av:=AV.str) (sz:=1) (s:=f.words) (k:=k) (j:=(pre.length:Int)) (x:=x) (by omega) (by simpa using h2) rfl
   rw [loop_go]
   generalize (mu K).code (.loopAt 1 [0,3,4,5,6] l102_0)=F
   clear hl'
   unfold shW
   by_cases e:x.length≤60
   ·have d:((60:Int) < (x.length:Int))=False:=by simp;omega
    have d2:(x.length≤60)=True:=by simp [e]
    simp [l102_0,KL,lendF,h1,hix,w1,d,d2,q2]
   ·have d:((60:Int) < (x.length:Int))=True:=by simp;omega
    simp [l102_0,KL,lendF,h1,hix,w1,d,e,q2])
  (fun b _=>by
   rw [loop_go]
   generalize (mu K).code (.loopAt 1 [0,3,4,5,6] l102_0)=F
   simp [l102_0]) () trivial
 simp only [List.length_nil,Int.natCast_zero] at key
 refine ⟨fun e=>?_,fun e=>?_⟩
 ·rw [(iter_all shW f.words.l).1 e] at key
  exact key.2
 ·rw [(iter_all shW f.words.l).2 e] at key
  exact key
theorem l102_1_ok (l:Sl Sc) (i:Nat) (s:Sc) (hs:l.l[i]?=some s) (hl:s.fields.l.length≤1000) (h:Heap) :
  (s.fields.l.all shF=true→∃ env,(mu K).code (.loopAt 0 [0,3,4] l102_1) ⟨[(0,l.avS Sc.av),(3,iV (i:Int)),(4,iV 0)],[] :: h⟩=some (.exit 2,⟨env,[] :: h⟩)∧get env 0=l.avS Sc.av∧get env 3=iV (i:Int)) ∧
  (s.fields.l.all shF=false→∃ env R,(mu K).code (.loopAt 0 [0,3,4] l102_1) ⟨[(0,l.avS Sc.av),(3,iV (i:Int)),(4,iV 0)],[] :: h⟩=some (.ret,⟨env,R :: h⟩)∧get env 2=.bool false):=by
 have q1:=beq_avS _ beq_fd s.fields
 have his:=fun (k:IntKind)=>iaF_sl (av:=Sc.av) (sz:=2) (s:=l) (k:=k) (j:=(i:Int)) (x:=s) (by omega) (by simpa using hs) rfl
 have key:=loop_iter (K:=K) (n:=0) (live:=[0,3,4]) (a:=l102_1) (fun (_:Unit) (f:Pol.Fd)=>if shF f=true then (.inl ():Unit ⊕ Unit) else .inr ())
  (fun pre _=>⟨[(0,l.avS Sc.av),(3,iV (i:Int)),(4,iV (pre.length:Int))],[] :: h⟩) (fun _ _=>True)
  (fun _ o=>∃ env,o=some (.exit 2,⟨env,[] :: h⟩)∧get env 0=l.avS Sc.av∧get env 3=iV (i:Int))
  (fun _ o=>∃ env R,o=some (.ret,⟨env,R :: h⟩)∧get env 2=.bool false) s.fields.l
  (fun pre x r b hl' hb=>by
   obtain ⟨h1,h2,w1⟩:=idx_facts hl' (by omega)
   have hix:=fun (k:IntKind)=>iaF_sl (av:=Pol.Fd.av) (sz:=5) (s:=s.fields) (k:=k) (j:=(pre.length:Int)) (x:=x) (by omega) (by simpa using h2) rfl
   have q2:=beq_avS _ beq_strS x.words
   have inner:=l102_0_ok l i pre.length x
   rw [loop_go]
   generalize (mu K).code (.loopAt 0 [0,3,4] l102_1)=F
   clear hl'
   unfold shF
   by_cases e:x.name.length≤60
   case neg=>
    have d:((60:Int) < (x.name.length:Int))=True:=by simp;omega
    simp [-List.all_eq_true,l102_1,KL,lendF,h1,his,hix,w1,d,e,q1,q2]
   have d:((60:Int) < (x.name.length:Int))=False:=by simp;omega
   have d2:(x.name.length≤60)=True:=by simp [e]
   by_cases e2:x.words.l.length≤40
   case neg=>
    have d3:((40:Int) < (x.words.l.length:Int))=True:=by simp;omega
    simp [-List.all_eq_true,l102_1,KL,lendF,h1,his,hix,w1,d,d2,d3,e2,q1,q2]
   have d3:((40:Int) < (x.words.l.length:Int))=False:=by simp;omega
   have d4:(x.words.l.length≤40)=True:=by simp [e2]
   cases e3:x.words.l.all shW with
   | true=>
    obtain ⟨env,k,g0,g3,g4⟩:=(inner (by omega) h).1 e3
    simp [-List.all_eq_true,l102_1,KL,lendF,h1,his,hix,w1,d,d2,d3,d4,q1,q2,k,g0,g3,g4]
   | false=>
    obtain ⟨env,k,g2⟩:=(inner (by omega) h).2 e3
    simp [-List.all_eq_true,l102_1,KL,lendF,h1,his,hix,w1,d,d2,d3,d4,q1,q2,k,g2])
  (fun b _=>by
   rw [loop_go]
   generalize (mu K).code (.loopAt 0 [0,3,4] l102_1)=F
   simp [l102_1,his]) () trivial
 simp only [List.length_nil,Int.natCast_zero] at key
 refine ⟨fun e=>?_,fun e=>?_⟩
 ·rw [(iter_all shF s.fields.l).1 e] at key
  exact key.2
 ·rw [(iter_all shF s.fields.l).2 e] at key
  exact key
theorem f102 (l:Sl Sc) (hl:∀ s∈l.l,s.fields.l.length≤140737488355328) (hll:l.l.length≤140737488355328) (h:Heap):(mu K).fn 102 [l.avS Sc.av] h=some (.val (.bool (shL l.l)) h):=by
 have key:=loop_iter (K:=K) (n:=0) (live:=[0,3]) (a:=l102_2) (fun (_:Unit) (s:Sc)=>if shS s=true then (.inl ():Unit ⊕ Unit) else .inr ())
  (fun pre _=>⟨[(0,l.avS Sc.av),(3,iV (pre.length:Int))],[] :: h⟩) (fun _ _=>True)
  (fun _ o=>∃ env,o=some (.exit 0,⟨env,[] :: h⟩)∧get env 0=l.avS Sc.av)
  (fun _ o=>∃ env R,o=some (.ret,⟨env,R :: h⟩)∧get env 2=.bool false) (l.l.take 10)
  (fun pre x r b hl' hb=>by
   have hlt:pre.length < (l.l.take 10).length:=by rw [hl'];simp
   simp only [List.length_take] at hlt
   have hx':(l.l.take 10)[pre.length]?=some x:=by rw [hl'];simp
   have hx:l.l[pre.length]?=some x:=by
    rw [List.getElem?_take] at hx'
    split at hx'
    ·exact hx'
    ·cases hx'
   have c1:((pre.length:Int) < (l.l.length:Int))=True:=by simp;omega
   have c2:((pre.length:Int) < 10)=True:=by simp;omega
   have w1:IntKind.i64.wrap ((pre.length:Int)+1)=(pre.length:Int)+1:=wrap64 (by omega) (by omega)
   have hix:=fun (k:IntKind)=>iaF_sl (av:=Sc.av) (sz:=2) (s:=l) (k:=k) (j:=(pre.length:Int)) (x:=x) (by omega) (by simpa using hx) rfl
   have q2:=beq_avS _ beq_fd x.fields
   have inner:=l102_1_ok l pre.length x hx
   rw [loop_go]
   generalize (mu K).code (.loopAt 0 [0,3] l102_2)=F
   clear hl'
   unfold shS
   by_cases e:x.name.length≤60
   case neg=>
    have d:((60:Int) < (x.name.length:Int))=True:=by simp;omega
    simp [-List.all_eq_true,l102_2,KL,lendF,c1,c2,hix,w1,d,e,q2]
   have d:((60:Int) < (x.name.length:Int))=False:=by simp;omega
   have d2:(x.name.length≤60)=True:=by simp [e]
   by_cases e2:x.fields.l.length≤20
   case neg=>
    have d3:((20:Int) < (x.fields.l.length:Int))=True:=by simp;omega
    simp [-List.all_eq_true,l102_2,KL,lendF,c1,c2,hix,w1,d,d2,d3,e2,q2]
   have d3:((20:Int) < (x.fields.l.length:Int))=False:=by simp;omega
   have d4:(x.fields.l.length≤20)=True:=by simp [e2]
   cases e3:x.fields.l.all shF with
   | true=>
    obtain ⟨env,k,g0,g3⟩:=(inner (by omega) h).1 e3
    simp [-List.all_eq_true,l102_2,KL,lendF,c1,c2,hix,w1,d,d2,d3,d4,q2,k,g0,g3]
   | false=>
    obtain ⟨env,R,k,g2⟩:=(inner (by omega) h).2 e3
    simp [-List.all_eq_true,l102_2,KL,lendF,c1,c2,hix,w1,d,d2,d3,d4,q2,k,g2])
  (fun b _=>by
   rw [loop_go]
   generalize (mu K).code (.loopAt 0 [0,3] l102_2)=F
   by_cases c:l.l.length≤10
   ·have e:min 10 l.l.length=l.l.length:=by omega
    simp [l102_2,e]
   ·have e:min 10 l.l.length=10:=by omega
    have c2:((10:Int) < (l.l.length:Int))=True:=by simp;omega
    simp [l102_2,e,c2]) () trivial
 simp only [List.length_nil,Int.natCast_zero] at key
 rw [fn_go (KX _ _ _) fn102 rfl (by simp [c102])]
 unfold shL
 cases e:(l.l.take 10).all shS with
 | false=>
  rw [(iter_all shS (l.l.take 10)).2 e] at key
  obtain ⟨env,R,k,g2⟩:=key
  simp [-List.all_eq_true,c102,KL,lendF,k,g2]
 | true=>
  rw [(iter_all shS (l.l.take 10)).1 e] at key
  obtain ⟨_,env,k,g0⟩:=key
  simp [-List.all_eq_true,c102,KL,lendF,k,g0]
  omega
end Go.Ab.Pl
/-
  The statements of chapter 45: which cases are small enough.
-/
namespace Go.Ab.Pl
open Go.Ab.Pol
set_option maxRecDepth 100000
set_option maxHeartbeats 4000000
abbrev caseAV (p:Po) (l:Sl Sc) (xs:Sl (Sl Int)):AV:=.agg (p.cs++[l.avS Sc.av,xsAV xs])
def shX (x:Sl Int):Bool:=decide (x.l.length≤20)
def few45 (p:Po) (l:List Sc) (xs:List (Sl Int)):Bool:=(xs.take 10).all shX && few41 p && shL l && decide (xs.length≤8)
theorem beq_ints:∀ s:Sl Int,(s.avS iV).beq (s.avS iV)=true:=fun s=>beq_avS _ beq_iV s
theorem f51 (p:Po) (l:Sl Sc) (hl:∀ s∈l.l,s.fields.l.length≤140737488355328) (hll:l.l.length≤140737488355328) (xs:Sl (Sl Int)) (h:Heap) :
  (mu K).fn 51 [caseAV p l xs] h=some (.val (.bool (few45 p l.l xs.l)) h):=by
 have k22:=fun h=>f22 p h
 have k102:=fun h=>f102 l hl hll h
 have key:=loop_iter (K:=K) (n:=1) (live:=[1,3]) (a:=l51_0) (fun (_:Unit) (s:Sl Int)=>if shX s=true then (.inl ():Unit ⊕ Unit) else .inr ())
  (fun pre _=>⟨[(1,.ptr (h.length,0) 0),(3,iV (pre.length:Int))],[.box 83 false (caseAV p l xs)] :: h⟩) (fun _ _=>True)
  (fun _ o=>∃ env,o=some (.exit 0,⟨env,[.box 83 false (caseAV p l xs)] :: h⟩)∧get env 1=.ptr (h.length,0) 0)
  (fun _ o=>∃ env R,o=some (.ret,⟨env,R :: h⟩)∧get env 2=.bool false) (xs.l.take 10)
  (fun pre x r b hl' hb=>by
   have hlt:pre.length < (xs.l.take 10).length:=by rw [hl'];simp
   simp only [List.length_take] at hlt
   have hx':(xs.l.take 10)[pre.length]?=some x:=by rw [hl'];simp
   have hx:xs.l[pre.length]?=some x:=by
    rw [List.getElem?_take] at hx'
    split at hx'
    ·exact hx'
    ·cases hx'
   have c1:((pre.length:Int) < (xs.l.length:Int))=True:=by simp;omega
   have c2:((pre.length:Int) < 10)=True:=by simp;omega
   have w1:IntKind.i64.wrap ((pre.length:Int)+1)=(pre.length:Int)+1:=wrap64 (by omega) (by omega)
   have hix:=fun (k:IntKind)=>iaF_sl (av:=fun s:Sl Int=>s.avS iV) (sz:=1) (s:=xs) (k:=k) (j:=(pre.length:Int)) (x:=x) (by omega) (by simpa using hx) (cells_avS iV x)
   have q1:=beq_avS _ beq_ints xs
   rw [loop_go]
   generalize (mu K).code (.loopAt 1 [1,3] l51_0)=F
   clear hl'
   unfold shX
   by_cases e:x.l.length≤20
   ·have d:((20:Int) < (x.l.length:Int))=False:=by simp;omega
    have d2:(x.l.length≤20)=True:=by simp [e]
    simp [l51_0,KL,lendF,c1,c2,hix,w1,d,d2,q1]
   ·have d:((20:Int) < (x.l.length:Int))=True:=by simp;omega
    simp [l51_0,KL,lendF,c1,c2,hix,w1,d,e,q1])
  (fun b _=>by
   have q1:=beq_avS _ beq_ints xs
   rw [loop_go]
   generalize (mu K).code (.loopAt 1 [1,3] l51_0)=F
   by_cases c:xs.l.length≤10
   ·have e:min 10 xs.l.length=xs.l.length:=by omega
    simp [l51_0,e,q1]
   ·have e:min 10 xs.l.length=10:=by omega
    have c2:((10:Int) < (xs.l.length:Int))=True:=by simp;omega
    simp [l51_0,e,c2,q1]) () trivial
 simp only [List.length_nil,Int.natCast_zero] at key
 rw [fn_go (KX _ _ _) fn51 rfl (by simp [c51])]
 unfold few45
 have q1:=beq_avS _ beq_ints xs
 have q2:=beq_avS _ beq_sc l
 cases e:(xs.l.take 10).all shX with
 | false=>
  rw [(iter_all shX (xs.l.take 10)).2 e] at key
  obtain ⟨env,R,k,g2⟩:=key
  simp [-List.all_eq_true,c51,KL,lendF,k,g2]
 | true=>
  rw [(iter_all shX (xs.l.take 10)).1 e] at key
  obtain ⟨_,env,k,g1⟩:=key
  cases e2:few41 p with
  | false=>
   rw [e2] at k22
   simp [-List.all_eq_true,c51,KL,lendF,k,g1,k22]
  | true=>
   rw [e2] at k22
   cases e3:shL l.l with
   | false=>
    rw [e3] at k102
    simp [-List.all_eq_true,c51,KL,lendF,k,g1,k22,k102,q2]
   | true=>
    rw [e3] at k102
    simp [-List.all_eq_true,c51,KL,lendF,k,g1,k22,k102,q1,q2]
    try omega
end Go.Ab.Pl
/-
  The statements of chapter 45 on the evaluator: how many kids hold, the loops.
-/
namespace Go.Ab.Pl
open Go.Ab.Pol
set_option maxRecDepth 100000
set_option maxHeartbeats 4000000
end Go.Ab.Pl
