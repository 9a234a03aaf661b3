/-
  Names of a policy; the aliases: the program.
-/
import Derived.Test.YtfpmflgjbpnkjaaGreatDoorAb4dP4
set_option linter.unusedVariables false
set_option linter.unusedSimpArgs false
set_option linter.unusedSectionVars false
namespace Go.Ab.Pn
open Go.Ab.Pol
set_option maxRecDepth 100000
set_option maxHeartbeats 1000000
abbrev okU (u:Us):Prop:=okS u.al∧okS u.sc
abbrev okR (r:Rf):Prop:=okS r.al∧okS r.attr
structure Sz (p:Po):Prop where
 name:okS p.name
 scope:okS p.scope
 escrow:okS p.escrow
 uses:p.uses.l.length≤1000∧∀ u∈p.uses.l,okU u
 reveal:p.reveal.l.length≤1000∧∀ r∈p.reveal.l,okR r
 nodes:okP p
theorem iter_and {α:Type} (g:α→Bool):∀ (l:List α) (b:Bool),iter (fun (b:Bool) (x:α)=>(.inl (b && g x):Bool ⊕ Unit)) b l=.inl (b && l.all g)
 | [],b=>by simp [iter]
 | x :: l,b=>by simp [iter,iter_and g l,Bool.and_assoc]
theorem f110 (p:Po) (hp:Sz p) (h:Heap):(mu K).fn 110 [p.av] h=some (.val (.bool (namesOk p)) h):=by
 have k1:=fun h=>f170 p.name hp.name h
 have k2:=fun h=>f170 p.escrow hp.escrow h
 have k3:=fun h=>f171 p.scope hp.scope h
 have key0:=fun (b0:Bool)=>loop_iter (K:=K) (n:=1) (live:=[1,3,32,33,34]) (a:=l110_0) (fun (b:Bool) (u:Us)=>(.inl (b && (nameOk u.al && nameOk u.sc)):Bool ⊕ Unit))
  (fun pre b=>⟨[(1,.ptr (h.length,0) 0),(3,.bool b),(32,p.uses.avS Us.av),(33,.int .i64 (p.uses.l.length:Int)),(34,.int .i64 (pre.length:Int))],[.box 26 false p.av] :: h⟩) (fun _ _=>True)
  (fun b o=>∃ env,o=some (.exit 0,⟨env,[.box 26 false p.av] :: h⟩)∧get env 1=.ptr (h.length,0) 0∧get env 3=.bool b) (fun _ _=>False) p.uses.l
  (fun pre x r b hl _=>by
   obtain ⟨h1,h2,w1⟩:=idx_facts hl (by have:=hp.uses.1;omega)
   have hx:=hp.uses.2 x (by rw [hl];simp)
   have hix:=fun (k:IntKind)=>iaF_sl (av:=Us.av) (sz:=2) (s:=p.uses) (k:=k) (j:=(pre.length:Int)) (x:=x) (by omega) (by simpa using h2) rfl
   have q1:=fun h=>f170 x.al hx.1 h
   have q2:=fun h=>f170 x.sc hx.2 h
   rw [loop_go]
   generalize (mu K).code (.loopAt 1 [1,3,32,33,34] l110_0)=F
   clear hl
   refine ⟨fun b' e=>⟨trivial,?_⟩,fun _ e=>by cases e⟩
   injection e with e
   subst e
   cases b
   ·simp [l110_0,KL,lendF,h1,hix,w1]
   ·cases c1:nameOk x.al
    ·simp [l110_0,KL,lendF,h1,hix,w1,q1,c1]
    ·simp [l110_0,KL,lendF,h1,hix,w1,q1,q2,c1])
  (fun b _=>by
   rw [loop_go]
   generalize (mu K).code (.loopAt 1 [1,3,32,33,34] l110_0)=F
   simp [l110_0]) b0 trivial
 have key1:=fun (b0:Bool)=>loop_iter (K:=K) (n:=1) (live:=[3,51,52,53]) (a:=l110_1) (fun (b:Bool) (u:Rf)=>(.inl (b && (nameOk u.al && nameOk u.attr)):Bool ⊕ Unit))
  (fun pre b=>⟨[(3,.bool b),(51,p.reveal.avS Rf.av),(52,.int .i64 (p.reveal.l.length:Int)),(53,.int .i64 (pre.length:Int))],[.box 26 false p.av] :: h⟩) (fun _ _=>True)
  (fun b o=>∃ env,o=some (.exit 2,⟨env,[.box 26 false p.av] :: h⟩)∧get env 3=.bool b) (fun _ _=>False) p.reveal.l
  (fun pre x r b hl _=>by
   obtain ⟨h1,h2,w1⟩:=idx_facts hl (by have:=hp.reveal.1;omega)
   have hx:=hp.reveal.2 x (by rw [hl];simp)
   have hix:=fun (k:IntKind)=>iaF_sl (av:=Rf.av) (sz:=2) (s:=p.reveal) (k:=k) (j:=(pre.length:Int)) (x:=x) (by omega) (by simpa using h2) rfl
   have q1:=fun h=>f170 x.al hx.1 h
   have q2:=fun h=>f170 x.attr hx.2 h
   rw [loop_go]
   generalize (mu K).code (.loopAt 1 [3,51,52,53] l110_1)=F
   clear hl
   refine ⟨fun b' e=>⟨trivial,?_⟩,fun _ e=>by cases e⟩
   injection e with e
   subst e
   cases b
   ·simp [l110_1,KL,lendF,h1,hix,w1]
   ·cases c1:nameOk x.al
    ·simp [l110_1,KL,lendF,h1,hix,w1,q1,c1]
    ·simp [l110_1,KL,lendF,h1,hix,w1,q1,q2,c1])
  (fun b _=>by
   rw [loop_go]
   generalize (mu K).code (.loopAt 1 [3,51,52,53] l110_1)=F
   simp [l110_1]) b0 trivial
 simp only [iter_and,List.length_nil,Int.natCast_zero] at key0 key1
 obtain ⟨_,e0,a0,a1,a2⟩:=key0 (nameOk p.name && (decide (p.escrow=[]) || nameOk p.escrow) && (decide (p.scope=[]) || wordOk p.scope))
 obtain ⟨_,e1,b0,b1⟩:=key1 (nameOk p.name && (decide (p.escrow=[]) || nameOk p.escrow) && (decide (p.scope=[]) || wordOk p.scope) && p.uses.l.all (fun u=>nameOk u.al && nameOk u.sc))
 have en:namesOk p=(nameOk p.name && (decide (p.escrow=[]) || nameOk p.escrow) && (decide (p.scope=[]) || wordOk p.scope) && p.uses.l.all (fun u=>nameOk u.al && nameOk u.sc) && p.reveal.l.all (fun r=>nameOk r.al && nameOk r.attr)):=rfl
 rw [en]
 generalize p.uses.l.all (fun u=>nameOk u.al && nameOk u.sc)=A at *
 generalize p.reveal.l.all (fun r=>nameOk r.al && nameOk r.attr)=B at *
 rw [fn_go (KX _ _ _) fn110 rfl (by simp [c110])]
 cases c1:nameOk p.name
 ·simp only [c1,Bool.false_and] at *
  simp [c110,KL,lendF,k1,c1,a0,a1,a2,b0,b1]
 ·by_cases c2:p.escrow=[]
  ·have d2:(p.escrow=[])=True:=by simp [c2]
   by_cases c3:p.scope=[]
   ·have d3:(p.scope=[])=True:=by simp [c3]
    simp only [c1,d2,d3,decide_true,Bool.true_or,Bool.true_and,Bool.and_true] at a0 a2 b0 b1
    simp [c110,KL,lendF,k1,c1,d2,d3,a0,a1,a2,b0,b1]
   ·have d3:(p.scope=[])=False:=by simp [c3]
    simp only [c1,d2,d3,decide_true,decide_false,Bool.false_or,Bool.true_or,Bool.true_and,Bool.and_true] at a0 a2 b0 b1
    simp [c110,KL,lendF,k1,k3,c1,d2,d3,a0,a1,a2,b0,b1]
  ·have d2:(p.escrow=[])=False:=by simp [c2]
   cases c4:nameOk p.escrow
   ·simp only [c1,c4,d2,decide_false,Bool.false_or,Bool.true_and,Bool.false_and] at a0 a2 b0 b1
    simp [c110,KL,lendF,k1,k2,c1,c4,d2,a0,a1,a2,b0,b1]
   ·by_cases c3:p.scope=[]
    ·have d3:(p.scope=[])=True:=by simp [c3]
     simp only [c1,c4,d2,d3,decide_true,decide_false,Bool.false_or,Bool.true_or,Bool.true_and,Bool.and_true] at a0 a2 b0 b1
     simp [c110,KL,lendF,k1,k2,c1,c4,d2,d3,a0,a1,a2,b0,b1]
    ·have d3:(p.scope=[])=False:=by simp [c3]
     simp only [c1,c4,d2,d3,decide_true,decide_false,Bool.false_or,Bool.true_or,Bool.true_and,Bool.and_true] at a0 a2 b0 b1
     simp [c110,KL,lendF,k1,k2,k3,c1,c4,d2,d3,a0,a1,a2,b0,b1]
end Go.Ab.Pn
