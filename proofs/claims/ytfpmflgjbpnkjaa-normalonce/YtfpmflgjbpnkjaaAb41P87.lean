/-
  Equal of two policies that differ in nil slices at most.
-/
import Derived.Test.YtfpmflgjbpnkjaaAb41P37
set_option linter.unusedVariables false
set_option linter.unusedSimpArgs false
namespace Go.Ab.Pl
open Go.Ab.Pol
set_option maxRecDepth 100000
set_option maxHeartbeats 4000000
def eqN (x y:Nd):Prop:=x.k=y.k∧x.num=y.num∧x.nm=y.nm∧x.attr=y.attr∧x.kids.l=y.kids.l∧x.pos=y.pos
structure EqD (p q:Po):Prop where
 name:p.name=q.name
 scope:p.scope=q.scope
 escrow:p.escrow=q.escrow
 limit:p.limit=q.limit
 root:p.root=q.root
 uses:p.uses.l=q.uses.l
 reveal:p.reveal.l=q.reveal.l
 len:p.nodes.l.length=q.nodes.l.length
 nodes:∀ (i:Nat) (x y:Nd),p.nodes.l[i]?=some x→q.nodes.l[i]?=some y→eqN x y
theorem EqD.at {p q:Po} (e:EqD p q) {i:Nat} {x:Nd} (h:p.nodes.l[i]?=some x):∃ y,q.nodes.l[i]?=some y∧eqN x y:=by
 have hi:i < q.nodes.l.length:=by rw [←e.len];exact (List.getElem?_eq_some_iff.1 h).1
 exact ⟨_,List.getElem?_eq_getElem hi,e.nodes i x _ h (List.getElem?_eq_getElem hi)⟩
theorem l33_2_eq (p q:Po) (n m:Nd) (e:eqN n m) (hk:n.kids.l.length≤1000) (i:Int) (h:Heap) :
  ∃ env,(mu K).code (.loopAt 4 [2,3,7,8,9,10] l33_2) ⟨[(2,.ptr (h.length,0) 0),(3,.ptr (h.length,1) 0),(7,iV i),(8,.ptr (h.length,2) 0),(9,.ptr (h.length,3) 0),(10,iV 0)],
   [.box 26 false p.av,.box 26 false q.av,.box 45 false n.av,.box 45 false m.av] :: h⟩=some (.exit 6,⟨env,[.box 26 false p.av,.box 26 false q.av,.box 45 false n.av,.box 45 false m.av] :: h⟩) ∧
   get env 2=.ptr (h.length,0) 0∧get env 3=.ptr (h.length,1) 0∧get env 7=iV i:=by
 have key:=loop_iter (K:=K) (n:=4) (live:=[2,3,7,8,9,10]) (a:=l33_2) (ρ:=Unit) (fun (b:Unit) (x:Int)=>.inl b)
  (fun pre _=>⟨[(2,.ptr (h.length,0) 0),(3,.ptr (h.length,1) 0),(7,iV i),(8,.ptr (h.length,2) 0),(9,.ptr (h.length,3) 0),(10,iV (pre.length:Int))],
   [.box 26 false p.av,.box 26 false q.av,.box 45 false n.av,.box 45 false m.av] :: h⟩) (fun _ _=>True)
  (fun _ o=>∃ env,o=some (.exit 6,⟨env,[.box 26 false p.av,.box 26 false q.av,.box 45 false n.av,.box 45 false m.av] :: h⟩)∧get env 2=.ptr (h.length,0) 0∧get env 3=.ptr (h.length,1) 0∧get env 7=iV i)
  (fun _ _=>False) n.kids.l
  (fun pre x r b hl _=>by
   obtain ⟨h1,h2,w1⟩:=idx_facts hl (by omega)
   have hix:=fun (k:IntKind)=>iaF_sl (av:=iV) (sz:=1) (s:=n.kids) (k:=k) (j:=(pre.length:Int)) (x:=x) (by omega) (by simpa using h2) rfl
   have hix':=fun (k:IntKind)=>iaF_sl (av:=iV) (sz:=1) (s:=m.kids) (k:=k) (j:=(pre.length:Int)) (x:=x) (by omega) (by rw [←e.2.2.2.2.1];simpa using h2) rfl
   have h1':m.kids.l.length=n.kids.l.length:=by rw [e.2.2.2.2.1]
   rw [loop_go]
   generalize (mu K).code (.loopAt 4 [2,3,7,8,9,10] l33_2)=F
   clear hl
   refine ⟨fun _ e=>⟨trivial,?_⟩,fun _ e=>by cases e⟩
   simp [l33_2,KL,lendF,h1,h1',hix,hix',w1])
  (fun _ _=>by
   rw [loop_go]
   generalize (mu K).code (.loopAt 4 [2,3,7,8,9,10] l33_2)=F
   have h1':m.kids.l.length=n.kids.l.length:=by rw [e.2.2.2.2.1]
   simp [l33_2,h1']) () trivial
 have e:iter (fun (b:Unit) (x:Int)=>(.inl b:Unit ⊕ Unit)) () n.kids.l=.inl ():=by
  induction n.kids.l with
  | nil=>rfl
  | cons a l ih=>simpa [iter] using ih
 rw [e] at key
 simpa using key.2
theorem f33e (p q:Po) (hp:Sz p) (e:EqD p q) (h:Heap):(mu K).fn 33 [p.av,q.av] h=some (.val (.bool true) h):=by
 have key0:=loop_iter (K:=K) (n:=2) (live:=[2,3,5]) (a:=l33_0) (ρ:=Unit) (fun (b:Unit) (x:Us)=>.inl b)
  (fun pre _=>⟨[(2,.ptr (h.length,0) 0),(3,.ptr (h.length,1) 0),(5,iV (pre.length:Int))],[.box 26 false p.av,.box 26 false q.av] :: h⟩) (fun _ _=>True)
  (fun _ o=>∃ env,o=some (.exit 0,⟨env,[.box 26 false p.av,.box 26 false q.av] :: h⟩)∧get env 2=.ptr (h.length,0) 0∧get env 3=.ptr (h.length,1) 0) (fun _ _=>False) p.uses.l
  (fun pre x r b hl _=>by
   obtain ⟨h1,h2,w1⟩:=idx_facts hl (by have:=hp.uses.1;omega)
   have hix:=fun (k:IntKind)=>iaF_sl (av:=Us.av) (sz:=2) (s:=p.uses) (k:=k) (j:=(pre.length:Int)) (x:=x) (by omega) (by simpa using h2) rfl
   have hix':=fun (k:IntKind)=>iaF_sl (av:=Us.av) (sz:=2) (s:=q.uses) (k:=k) (j:=(pre.length:Int)) (x:=x) (by omega) (by rw [←e.uses];simpa using h2) rfl
   have h1':q.uses.l.length=p.uses.l.length:=by rw [e.uses]
   rw [loop_go]
   generalize (mu K).code (.loopAt 2 [2,3,5] l33_0)=F
   clear hl
   refine ⟨fun _ e=>⟨trivial,?_⟩,fun _ e=>by cases e⟩
   simp [l33_0,KL,lendF,h1,h1',hix,hix',w1,eqFs,eqF])
  (fun _ _=>by
   rw [loop_go]
   generalize (mu K).code (.loopAt 2 [2,3,5] l33_0)=F
   simp [l33_0]) () trivial
 rw [iter_unit] at key0
 obtain ⟨_,env0,a0,a2,a3⟩:=key0
 have key1:=loop_iter (K:=K) (n:=2) (live:=[2,3,6]) (a:=l33_1) (ρ:=Unit) (fun (b:Unit) (x:Rf)=>.inl b)
  (fun pre _=>⟨[(2,.ptr (h.length,0) 0),(3,.ptr (h.length,1) 0),(6,iV (pre.length:Int))],[.box 26 false p.av,.box 26 false q.av] :: h⟩) (fun _ _=>True)
  (fun _ o=>∃ env,o=some (.exit 2,⟨env,[.box 26 false p.av,.box 26 false q.av] :: h⟩)∧get env 2=.ptr (h.length,0) 0∧get env 3=.ptr (h.length,1) 0) (fun _ _=>False) p.reveal.l
  (fun pre x r b hl _=>by
   obtain ⟨h1,h2,w1⟩:=idx_facts hl (by have:=hp.reveal.1;omega)
   have hix:=fun (k:IntKind)=>iaF_sl (av:=Rf.av) (sz:=2) (s:=p.reveal) (k:=k) (j:=(pre.length:Int)) (x:=x) (by omega) (by simpa using h2) rfl
   have hix':=fun (k:IntKind)=>iaF_sl (av:=Rf.av) (sz:=2) (s:=q.reveal) (k:=k) (j:=(pre.length:Int)) (x:=x) (by omega) (by rw [←e.reveal];simpa using h2) rfl
   have h1':q.reveal.l.length=p.reveal.l.length:=by rw [e.reveal]
   rw [loop_go]
   generalize (mu K).code (.loopAt 2 [2,3,6] l33_1)=F
   clear hl
   refine ⟨fun _ e=>⟨trivial,?_⟩,fun _ e=>by cases e⟩
   simp [l33_1,KL,lendF,h1,h1',hix,hix',w1,eqFs,eqF])
  (fun _ _=>by
   rw [loop_go]
   generalize (mu K).code (.loopAt 2 [2,3,6] l33_1)=F
   simp [l33_1]) () trivial
 rw [iter_unit] at key1
 obtain ⟨_,env1,b0,b2,b3⟩:=key1
 have q1:=beq_avS _ beq_us p.uses
 have q2:=beq_avS _ beq_rf p.reveal
 have q3:=beq_avS _ beq_nd p.nodes
 have r1:=beq_avS _ beq_us q.uses
 have r2:=beq_avS _ beq_rf q.reveal
 have r3:=beq_avS _ beq_nd q.nodes
 have q4:=fun x:Nd=>beq_avS _ beq_iV x.kids
 have key2:=loop_iter (K:=K) (n:=2) (live:=[2,3,7]) (a:=l33_3) (ρ:=Unit) (fun (b:Unit) (x:Nd)=>.inl b)
  (fun pre _=>⟨[(2,.ptr (h.length,0) 0),(3,.ptr (h.length,1) 0),(7,iV (pre.length:Int))],[.box 26 false p.av,.box 26 false q.av] :: h⟩) (fun _ _=>True)
  (fun _ o=>∃ env,o=some (.exit 4,⟨env,[.box 26 false p.av,.box 26 false q.av] :: h⟩)) (fun _ _=>False) p.nodes.l
  (fun pre x r b hl _=>by
   obtain ⟨h1,h2,w1⟩:=idx_facts hl (by have:=hp.nodes.1;omega)
   have hix:=fun (k:IntKind)=>iaF_sl (av:=Nd.av) (sz:=6) (s:=p.nodes) (k:=k) (j:=(pre.length:Int)) (x:=x) (by omega) (by simpa using h2) rfl
   obtain ⟨y,h2',en⟩:=e.at h2
   have hix':=fun (k:IntKind)=>iaF_sl (av:=Nd.av) (sz:=6) (s:=q.nodes) (k:=k) (j:=(pre.length:Int)) (x:=y) (by omega) (by simpa using h2') rfl
   have h1':q.nodes.l.length=p.nodes.l.length:=e.len.symm
   have hkl:y.kids.l.length=x.kids.l.length:=by rw [en.2.2.2.2.1]
   obtain ⟨n1,n2,n3,n4,n5,n6⟩:=en
   obtain ⟨env,k,g2,g3,g7⟩:=l33_2_eq p q x y ⟨n1,n2,n3,n4,n5,n6⟩ (hp.nodes.2 x (List.mem_of_getElem? h2)).2 (pre.length:Int) h
   rw [loop_go]
   generalize (mu K).code (.loopAt 2 [2,3,7] l33_3)=F
   clear hl
   refine ⟨fun _ e=>⟨trivial,?_⟩,fun _ e=>by cases e⟩
   simp [l33_3,KL,lendF,h1,h1',hix,hix',w1,k,g2,g3,g7,q1,q2,q3,q4,r1,r2,r3,n1,n2,n3,n4,n6,hkl])
  (fun _ _=>by
   rw [loop_go]
   generalize (mu K).code (.loopAt 2 [2,3,7] l33_3)=F
   simp [l33_3,e.len]) () trivial
 rw [iter_unit] at key2
 obtain ⟨_,env2,c0⟩:=key2
 simp only [List.length_nil,Int.natCast_zero] at a0 b0 c0
 rw [fn_go (KX _ _ _) fn33 rfl (by simp [c33])]
 have u1:q.uses.l.length=p.uses.l.length:=by rw [e.uses]
 have u2:q.reveal.l.length=p.reveal.l.length:=by rw [e.reveal]
 simp [c33,KL,lendF,a0,a2,a3,b0,b2,b3,c0,u1,u2,←e.name,←e.scope,←e.escrow,←e.limit,←e.root,←e.len]
end Go.Ab.Pl
