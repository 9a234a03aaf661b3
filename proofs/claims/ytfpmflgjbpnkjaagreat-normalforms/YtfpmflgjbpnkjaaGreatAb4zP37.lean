/-
  Equal of a policy with itself; Tidy of a policy that is no tree; the reference's Refs.
-/
import Derived.Test.YtfpmflgjbpnkjaaGreatAb4zP29
import Derived.Test.YtfpmflgjbpnkjaaGreatAb4zP10
import Derived.Test.YtfpmflgjbpnkjaaGreatAb4zP6
import Derived.Test.YtfpmflgjbpnkjaaGreatAbRefs
import Derived.Test.YtfpmflgjbpnkjaaGreatAb4zP11
set_option linter.unusedVariables false
set_option linter.unusedSimpArgs false
namespace Go.Ab.Pz
open Go.Ab.Pol
set_option maxRecDepth 100000
set_option maxHeartbeats 4000000
theorem l28_2_ok (p:Po) (n:Nd) (hk:n.kids.l.length≤1000) (i:Int) (h:Heap) :
  ∃ env,(mu K).code (.loopAt 4 [2,3,7,8,9,10] l28_2) ⟨[(2,.ptr (h.length,0) 0),(3,.ptr (h.length,1) 0),(7,iV i),(8,.ptr (h.length,2) 0),(9,.ptr (h.length,3) 0),(10,iV 0)],
   [.box 26 false p.av,.box 26 false p.av,.box 63 false n.av,.box 63 false n.av] :: h⟩=some (.exit 6,⟨env,[.box 26 false p.av,.box 26 false p.av,.box 63 false n.av,.box 63 false n.av] :: h⟩) ∧
   get env 2=.ptr (h.length,0) 0∧get env 3=.ptr (h.length,1) 0∧get env 7=iV i:=by
 have key:=loop_iter (K:=K) (n:=4) (live:=[2,3,7,8,9,10]) (a:=l28_2) (ρ:=Unit) (fun (b:Unit) (x:Int)=>.inl b)
  (fun pre _=>⟨[(2,.ptr (h.length,0) 0),(3,.ptr (h.length,1) 0),(7,iV i),(8,.ptr (h.length,2) 0),(9,.ptr (h.length,3) 0),(10,iV (pre.length:Int))],
   [.box 26 false p.av,.box 26 false p.av,.box 63 false n.av,.box 63 false n.av] :: h⟩) (fun _ _=>True)
  (fun _ o=>∃ env,o=some (.exit 6,⟨env,[.box 26 false p.av,.box 26 false p.av,.box 63 false n.av,.box 63 false n.av] :: h⟩)∧get env 2=.ptr (h.length,0) 0∧get env 3=.ptr (h.length,1) 0∧get env 7=iV i)
  (fun _ _=>False) n.kids.l
  (fun pre x r b hl _=>by
   obtain ⟨h1,h2,w1⟩:=idx_facts hl (by omega)
   have hix:=fun (k:IntKind)=>iaF_sl (av:=iV) (sz:=1) (s:=n.kids) (k:=k) (j:=(pre.length:Int)) (x:=x) (by omega) (by simpa using h2) rfl
   rw [loop_go]
   generalize (mu K).code (.loopAt 4 [2,3,7,8,9,10] l28_2)=F
   clear hl
   refine ⟨fun _ e=>⟨trivial,?_⟩,fun _ e=>by cases e⟩
   simp [l28_2,KL,lendF,h1,hix,w1])
  (fun _ _=>by
   rw [loop_go]
   generalize (mu K).code (.loopAt 4 [2,3,7,8,9,10] l28_2)=F
   simp [l28_2]) () trivial
 have e:iter (fun (b:Unit) (x:Int)=>(.inl b:Unit ⊕ Unit)) () n.kids.l=.inl ():=by
  induction n.kids.l with
  | nil=>rfl
  | cons a l ih=>simpa [iter] using ih
 rw [e] at key
 simpa using key.2
theorem iter_unit {α:Type}:∀ l:List α,iter (fun (b:Unit) (x:α)=>(.inl b:Unit ⊕ Unit)) () l=.inl ()
 | []=>rfl
 | _ :: l=>by simpa [iter] using iter_unit l
theorem f28 (p:Po) (hp:Sz p) (h:Heap):(mu K).fn 28 [p.av,p.av] h=some (.val (.bool true) h):=by
 have key0:=loop_iter (K:=K) (n:=2) (live:=[2,3,5]) (a:=l28_0) (ρ:=Unit) (fun (b:Unit) (x:Us)=>.inl b)
  (fun pre _=>⟨[(2,.ptr (h.length,0) 0),(3,.ptr (h.length,1) 0),(5,iV (pre.length:Int))],[.box 26 false p.av,.box 26 false p.av] :: h⟩) (fun _ _=>True)
  (fun _ o=>∃ env,o=some (.exit 0,⟨env,[.box 26 false p.av,.box 26 false p.av] :: h⟩)∧get env 2=.ptr (h.length,0) 0∧get env 3=.ptr (h.length,1) 0) (fun _ _=>False) p.uses.l
  (fun pre x r b hl _=>by
   obtain ⟨h1,h2,w1⟩:=idx_facts hl (by have:=hp.uses.1;omega)
   have hix:=fun (k:IntKind)=>iaF_sl (av:=Us.av) (sz:=2) (s:=p.uses) (k:=k) (j:=(pre.length:Int)) (x:=x) (by omega) (by simpa using h2) rfl
   rw [loop_go]
   generalize (mu K).code (.loopAt 2 [2,3,5] l28_0)=F
   clear hl
   refine ⟨fun _ e=>⟨trivial,?_⟩,fun _ e=>by cases e⟩
   simp [l28_0,KL,lendF,h1,hix,w1,eqFs,eqF])
  (fun _ _=>by
   rw [loop_go]
   generalize (mu K).code (.loopAt 2 [2,3,5] l28_0)=F
   simp [l28_0]) () trivial
 rw [iter_unit] at key0
 obtain ⟨_,env0,a0,a2,a3⟩:=key0
 have key1:=loop_iter (K:=K) (n:=2) (live:=[2,3,6]) (a:=l28_1) (ρ:=Unit) (fun (b:Unit) (x:Rf)=>.inl b)
  (fun pre _=>⟨[(2,.ptr (h.length,0) 0),(3,.ptr (h.length,1) 0),(6,iV (pre.length:Int))],[.box 26 false p.av,.box 26 false p.av] :: h⟩) (fun _ _=>True)
  (fun _ o=>∃ env,o=some (.exit 2,⟨env,[.box 26 false p.av,.box 26 false p.av] :: h⟩)∧get env 2=.ptr (h.length,0) 0∧get env 3=.ptr (h.length,1) 0) (fun _ _=>False) p.reveal.l
  (fun pre x r b hl _=>by
   obtain ⟨h1,h2,w1⟩:=idx_facts hl (by have:=hp.reveal.1;omega)
   have hix:=fun (k:IntKind)=>iaF_sl (av:=Rf.av) (sz:=2) (s:=p.reveal) (k:=k) (j:=(pre.length:Int)) (x:=x) (by omega) (by simpa using h2) rfl
   rw [loop_go]
   generalize (mu K).code (.loopAt 2 [2,3,6] l28_1)=F
   clear hl
   refine ⟨fun _ e=>⟨trivial,?_⟩,fun _ e=>by cases e⟩
   simp [l28_1,KL,lendF,h1,hix,w1,eqFs,eqF])
  (fun _ _=>by
   rw [loop_go]
   generalize (mu K).code (.loopAt 2 [2,3,6] l28_1)=F
   simp [l28_1]) () trivial
 rw [iter_unit] at key1
 obtain ⟨_,env1,b0,b2,b3⟩:=key1
 have q1:=beq_avS _ beq_us p.uses
 have q2:=beq_avS _ beq_rf p.reveal
 have q3:=beq_avS _ beq_nd p.nodes
 have q4:=fun x:Nd=>beq_avS _ beq_iV x.kids
 have key2:=loop_iter (K:=K) (n:=2) (live:=[2,3,7]) (a:=l28_3) (ρ:=Unit) (fun (b:Unit) (x:Nd)=>.inl b)
  (fun pre _=>⟨[(2,.ptr (h.length,0) 0),(3,.ptr (h.length,1) 0),(7,iV (pre.length:Int))],[.box 26 false p.av,.box 26 false p.av] :: h⟩) (fun _ _=>True)
  (fun _ o=>∃ env,o=some (.exit 4,⟨env,[.box 26 false p.av,.box 26 false p.av] :: h⟩)) (fun _ _=>False) p.nodes.l
  (fun pre x r b hl _=>by
   obtain ⟨h1,h2,w1⟩:=idx_facts hl (by have:=hp.nodes.1;omega)
   have hix:=fun (k:IntKind)=>iaF_sl (av:=Nd.av) (sz:=6) (s:=p.nodes) (k:=k) (j:=(pre.length:Int)) (x:=x) (by omega) (by simpa using h2) rfl
   obtain ⟨env,k,g2,g3,g7⟩:=l28_2_ok p x (hp.nodes.2 x (List.mem_of_getElem? h2)).2 (pre.length:Int) h
   rw [loop_go]
   generalize (mu K).code (.loopAt 2 [2,3,7] l28_3)=F
   clear hl
   refine ⟨fun _ e=>⟨trivial,?_⟩,fun _ e=>by cases e⟩
   simp [l28_3,KL,lendF,h1,hix,w1,k,g2,g3,g7,q1,q2,q3,q4])
  (fun _ _=>by
   rw [loop_go]
   generalize (mu K).code (.loopAt 2 [2,3,7] l28_3)=F
   simp [l28_3]) () trivial
 rw [iter_unit] at key2
 obtain ⟨_,env2,c0⟩:=key2
 simp only [List.length_nil,Int.natCast_zero] at a0 b0 c0
 rw [fn_go (KX _ _ _) fn28 rfl (by simp [c28])]
 simp [c28,KL,lendF,a0,a2,a3,b0,b2,b3,c0]
end Go.Ab.Pz
