/-
  Schemas: the reference.
-/
import Derived.Test.YtjnomgdildcbhaaGreatDoorAb4dP13
import Derived.Test.YtjnomgdildcbhaaGreatDoorAb4dP8
import Derived.Test.YtjnomgdildcbhaaGreatDoorAb4dP92
import Derived.Test.YtjnomgdildcbhaaGreatDoorAb4dS8
import Derived.Test.YtjnomgdildcbhaaGreatDoorAb4dS4
import Derived.Test.YtjnomgdildcbhaaGreatDoorAb4dS45
import Derived.Test.YtjnomgdildcbhaaGreatDoorChecked
import Derived.Test.YtjnomgdildcbhaaGreatDoorRows
import Derived.JoinedOf
import Derived.Handed
import Derived.KernelRfl
import Derived.LaidLaws
set_option linter.unusedVariables false
set_option linter.unusedSimpArgs false
set_option linter.unusedSectionVars false
namespace Go.Ab.Pn
open Go.Ab.Pol
set_option maxRecDepth 100000
set_option maxHeartbeats 1000000
end Go.Ab.Pn
/-
  Schemas and fields: the reference.
-/
namespace Go.Ab.Pn
open Go.Ab.Pol
set_option maxRecDepth 100000
set_option maxHeartbeats 1000000
theorem f56 (s:Sc) (hs:s.fields.l.length<=1000) (nm:Bs) (h:Heap):(mu K).fn 56 [s.av,.str nm] h=some (.val (.tup [.int .i64 (match fdI s nm with | none=>0 | some k=>(k:Int)),.bool (fdI s nm).isSome]) h):=by
 have key:=aF (K:=K) (n:=1) (live:=[1,2,6]) (a:=vI) (ixF fun f:Pol.Fd=>decide (f.name=nm))
  (fun pre b=>⟨[(1,.str nm),(2,.ptr (h.length,0) 0),(6,.int .i64 (pre.length:Int))],[.box 84 false s.av] :: h⟩) (fun pre b=>b=pre.length)
  (fun b o=>∃ env,o=some (.exit 0,⟨env,[.box 84 false s.av] :: h⟩)) (fun k o=>∃ env,o=some (.ret,⟨env,[.box 84 false s.av] :: h⟩)∧get env 4=.int .i64 (k:Int)∧get env 5=.bool true) s.fields.l
  (fun pre x r b hl hb=>by
   obtain ⟨h1,h2,w1⟩:=aG hl (by omega)
   have hix:=fun (k:IntKind)=>aH (av:=Fd.av) (sz:=5) (s:=s.fields) (k:=k) (j:=(pre.length:Int)) (x:=x) (by omega) (by simpa using h2) rfl
   rw [ay]
   generalize (mu K).code (.aj 1 [1,2,6] vI)=F
   clear hl
   unfold ixF
   by_cases e:x.name=nm
   ·have d:(x.name=nm)=True:=by simp [e]
    simp [vI,KL,aa,h1,hix,w1,d,hb]
   ·simp [vI,KL,aa,h1,hix,w1,e,hb])
  (fun b _=>by
   rw [ay]
   generalize (mu K).code (.aj 1 [1,2,6] vI)=F
   simp [vI]) 0 rfl
 simp only [List.length_nil,Int.natCast_zero] at key
 rw [uU] at key
 rw [aD (KX _ _ _) WU rfl (by simp [c56])]
 unfold fdI
 cases e:s.fields.l.findIdx? (fun f=>decide (f.name=nm)) with
 | none=>
  rw [e] at key
  obtain ⟨_,env,k⟩:=key
  simp [c56,KL,aa,k]
 | some k0=>
  rw [e] at key
  obtain ⟨env,k,g,g5⟩:=key
  simp only [Nat.zero_add] at g
  simp [c56,KL,aa,k,g,g5]
theorem f55 (l:Sl Sc) (hl:l.l.length<=1000) (nm:Bs) (h:Heap):(mu K).fn 55 [l.avS Sc.av,.str nm] h=some (.val (.tup [uL (scN l.l nm),.bool (scN l.l nm).isSome]) h):=by
 have key:=aF (K:=K) (n:=1) (live:=[0,1,4,6]) (a:=vH) (fnF fun s:Sc=>decide (s.name=nm))
  (fun pre b=>⟨[(0,l.avS Sc.av),(1,.str nm),(4,.ptr (h.length,0) 0),(6,.int .i64 (pre.length:Int))],[.box 84 false (.agg [.str [],.af])] :: h⟩) (fun _ _=>True)
  (fun b o=>∃ env,o=some (.exit 0,⟨env,[.box 84 false (.agg [.str [],.af])] :: h⟩)∧get env 4=.ptr (h.length,0) 0) (fun s o=>∃ env R,o=some (.ret,⟨env,(.box 84 false s.av :: R) :: h⟩)∧get env 4=.ptr (h.length,0) 0∧get env 5=.bool true) l.l
  (fun pre x r b hl' hb=>by
   obtain ⟨h1,h2,w1⟩:=aG hl' (by omega)
   have hix:=fun (k:IntKind)=>aH (av:=Sc.av) (sz:=2) (s:=l) (k:=k) (j:=(pre.length:Int)) (x:=x) (by omega) (by simpa using h2) rfl
   have q1:=fo x
   rw [ay]
   generalize (mu K).code (.aj 1 [0,1,4,6] vH)=F
   clear hl'
   unfold fnF
   by_cases e:x.name=nm
   ·have d:(x.name=nm)=True:=by simp [e]
    simp [vH,KL,aa,h1,hix,w1,d]
   ·simp [vH,KL,aa,h1,hix,w1,e])
  (fun b _=>by
   rw [ay]
   generalize (mu K).code (.aj 1 [0,1,4,6] vH)=F
   simp [vH]) () trivial
 simp only [List.length_nil,Int.natCast_zero] at key
 rw [Bh] at key
 rw [aD (KX _ _ _) WT rfl (by simp [c55])]
 unfold scN
 cases e:l.l.find? (fun s=>decide (s.name=nm)) with
 | none=>
  rw [e] at key
  obtain ⟨_,env,k,g4⟩:=key
  have z0:zSc.av=.agg [.str [],.af]:=rfl
  simp [c55,KL,aa,k,g4,uL,z0]
 | some s=>
  rw [e] at key
  obtain ⟨env,R,k,g4,g5⟩:=key
  simp [c55,KL,aa,k,g4,g5,uL]
theorem f54 (p:Po) (hp:p.uses.l.length<=1000) (al:Bs) (h:Heap):(mu K).fn 54 [p.av,.str al] h=some (.val (.tup [.int .i64 (match rO p.uses.l al with | none=>0 | some k=>(k:Int)),.bool (rO p.uses.l al).isSome]) h):=by
 have key:=aF (K:=K) (n:=1) (live:=[1,2,6]) (a:=vG) (ixF fun u:Us=>decide (u.al=al))
  (fun pre b=>⟨[(1,.str al),(2,.ptr (h.length,0) 0),(6,.int .i64 (pre.length:Int))],[.box 26 false p.av] :: h⟩) (fun pre b=>b=pre.length)
  (fun b o=>∃ env,o=some (.exit 0,⟨env,[.box 26 false p.av] :: h⟩)) (fun k o=>∃ env,o=some (.ret,⟨env,[.box 26 false p.av] :: h⟩)∧get env 4=.int .i64 (k:Int)∧get env 5=.bool true) p.uses.l
  (fun pre x r b hl hb=>by
   obtain ⟨h1,h2,w1⟩:=aG hl (by omega)
   have hix:=fun (k:IntKind)=>aH (av:=Us.av) (sz:=2) (s:=p.uses) (k:=k) (j:=(pre.length:Int)) (x:=x) (by omega) (by simpa using h2) rfl
   rw [ay]
   generalize (mu K).code (.aj 1 [1,2,6] vG)=F
   clear hl
   unfold ixF
   by_cases e:x.al=al
   ·have d:(x.al=al)=True:=by simp [e]
    simp [vG,KL,aa,h1,hix,w1,d,hb]
   ·simp [vG,KL,aa,h1,hix,w1,e,hb])
  (fun b _=>by
   rw [ay]
   generalize (mu K).code (.aj 1 [1,2,6] vG)=F
   simp [vG]) 0 rfl
 simp only [List.length_nil,Int.natCast_zero] at key
 rw [uU] at key
 rw [aD (KX _ _ _) WS rfl (by simp [c54])]
 unfold rO
 cases e:p.uses.l.findIdx? (fun u=>decide (u.al=al)) with
 | none=>
  rw [e] at key
  obtain ⟨_,env,k⟩:=key
  simp [c54,KL,aa,k]
 | some k0=>
  rw [e] at key
  obtain ⟨env,k,g,g5⟩:=key
  simp only [Nat.zero_add] at g
  simp [c54,KL,aa,k,g,g5]
end Go.Ab.Pn
/-
  Fields and conditions: the reference.
-/
namespace Go.Ab.Pn
open Go.Ab.Pol
set_option maxRecDepth 100000
set_option maxHeartbeats 1000000
theorem f17 (p:Po) (hp:p.uses.l.length<=1000) (l:Sl Sc) (hl:okL l) (r:Rf) (h:Heap):(mu K).fn 17 [p.av,l.avS Sc.av,r.av] h=some (.val (.tup [iW (findF p.uses.l l.l r),iM (findF p.uses.l l.l r),.bool (findF p.uses.l l.l r).isSome]) h):=by
 have k1:=fun h=>f54 p hp r.al h
 rw [Fh]
 rw [aD (KX _ _ _) WI rfl (by simp [c17])]
 cases eu:rO p.uses.l r.al with
 | none=>
  rw [eu] at k1
  simp [c17,KL,aa,k1,iW,iM]
 | some u=>
  rw [eu] at k1
  have hu:u < p.uses.l.length:=by
   unfold rO at eu
   exact (List.findIdx?_eq_some_iff_getElem.1 eu).1
  have hg:p.uses.l[u]?=some p.uses.l[u]:=List.getElem?_eq_getElem hu
  simp only [hg]
  generalize p.uses.l[u]=x at *
  have hix:=fun (k:IntKind)=>aH (av:=Us.av) (sz:=2) (s:=p.uses) (k:=k) (j:=(u:Int)) (x:=x) (by omega) (by simpa using hg) rfl
  have k2:=fun h=>f55 l hl.len x.sc h
  unfold Hr
  cases es:scN l.l x.sc with
  | none=>
   rw [es] at k2
   have z0:uL none=.agg [.str [],.af]:=rfl
   rw [z0] at k2
   simp [c17,KL,aa,k1,hix,k2,iW,iM]
  | some s=>
   rw [es] at k2
   have z0:uL (some s)=s.av:=rfl
   rw [z0] at k2
   have hs:=hl.sc s (rP es).1
   have k3:=fun h=>f56 s hs.len r.attr h
   cases ef:fdI s r.attr with
   | none=>
    rw [ef] at k3
    simp [c17,KL,aa,k1,hix,k2,k3,ef,iW,iM]
   | some i=>
    rw [ef] at k3
    have hi:i < s.fields.l.length:=by
     unfold fdI at ef
     exact (List.findIdx?_eq_some_iff_getElem.1 ef).1
    have hg2:s.fields.l[i]?=some s.fields.l[i]:=List.getElem?_eq_getElem hi
    generalize s.fields.l[i]=f at *
    have hiy:=fun (k:IntKind)=>aH (av:=Fd.av) (sz:=5) (s:=s.fields) (k:=k) (j:=(i:Int)) (x:=f) (by omega) (by simpa using hg2) rfl
    have w2:IntKind.i64.wrap ((i:Int)+2)=(i:Int)+2:=wrap64 (by omega) (by have:=hs.len;omega)
    have q1:=au _ vP s.fields
    have q2:=au _ bX f.words
    simp [c17,KL,aa,k1,hix,k2,k3,hiy,w2,q1,q2,ef,hg2,iW,iM]
end Go.Ab.Pn
/-
  The statement PlanPlaces on the evaluator.
-/
namespace Go.Ab.Pn
open Go.Ab.Pol
set_option maxRecDepth 100000
set_option maxHeartbeats 4000000
section
variable (p:Po) (hp:Sz p) (l:Sl Sc) (hl:okL l) (P:Pl) (n:AV) (hn:∀ f:Loc->Bool,n.aJ f=true) (h:Heap)
include hp hl hn
theorem Mh (refs:List Rf) (hv:∀ r∈refs,(findF p.uses.l l.l r).isSome=true) (hP:P.comm.l=refs.map (pcR p.uses.l l.l)) (hs:refs.length<=1000):∃ env,
  (mu K5).code (.aj 3 [1,2,5,9,10] Ek) ⟨[(1,l.avS Sc.av),(2,.ptr (h.length,0) 0),(5,.ptr (h.length,1) 0),(9,.lst (refs.map Rf.av)),(10,iV 0)],[.box 26 false p.av,.box 36 false P.av,.box 26 false n] :: h⟩ =
   some (.exit 0,⟨env,[.box 26 false p.av,.box 36 false P.av,.box 26 false n] :: h⟩)∧get env 1=l.avS Sc.av∧get env 2=.ptr (h.length,0) 0∧get env 5=.ptr (h.length,1) 0:=by
 have q1:=au _ dI p.uses
 have q2:=au _ dh p.aA
 have q3:=au _ cW p.nodes
 have q4:=au _ I8 P.comm
 have pd:P.av=.agg [P.kg.avS Pc.av,P.comm.avS Pc.av,P.atoms.avS Pt.av,P.gJ.avS Gt.av,P.sq.avS Pt.av]:=rfl
 have key:=aF (K:=K5) (n:=3) (live:=[1,2,5,9,10]) (a:=Ek) (fun (_:Unit) (q:Rf)=>(.inl ():Unit ⊕ Unit))
  (fun pre _=>⟨[(1,l.avS Sc.av),(2,.ptr (h.length,0) 0),(5,.ptr (h.length,1) 0),(9,.lst (refs.map Rf.av)),(10,iV (pre.length:Int))],[.box 26 false p.av,.box 36 false P.av,.box 26 false n] :: h⟩) (fun _ _=>True)
  (fun _ o=>∃ env,o=some (.exit 0,⟨env,[.box 26 false p.av,.box 36 false P.av,.box 26 false n] :: h⟩)∧get env 1=l.avS Sc.av∧get env 2=.ptr (h.length,0) 0∧get env 5=.ptr (h.length,1) 0) (fun _ o=>False) refs
  (fun pre x r u hl' _=>by
   obtain ⟨h1,h2,w1⟩:=aG hl' (by omega)
   have hix:∀ (k:IntKind),iaF 2 (.lst (refs.map Rf.av)) (.int k (pre.length:Int))=some (.cV x.av 0):=fun k=>eP (by omega) (by
    rw [List.getElem?_map]
    simp only [Int.toNat_natCast] at h2 ⊢
    rw [h2];rfl) rfl
   have hiy:=fun (k:IntKind)=>aH (av:=Pc.av) (sz:=2) (s:=P.comm) (k:=k) (j:=(pre.length:Int)) (x:=pcR p.uses.l l.l x) (by omega) (by
    rw [hP,List.getElem?_map]
    simp only [Int.toNat_natCast] at h2 ⊢
    rw [h2];rfl) rfl
   obtain ⟨⟨u1,k1,f1⟩,hf⟩:=Option.isSome_iff_exists.1 (hv x (by rw [hl'];simp))
   have k17:=fun h=>Cv (f17 p hp.uses.1 l hl x h)
   have ep:(pcR p.uses.l l.l x)=⟨(u1:Int),(k1:Int)+2⟩:=by unfold pcR;rw [hf]
   rw [hf] at k17
   rw [ep] at hiy
   simp only [iW,iM,Option.isSome_some] at k17
   have qw:=au _ bX f1.words
   have qx:x.av.beq x.av=true:=dh x
   rw [ay]
   generalize (mu K5).code (.aj 3 [1,2,5,9,10] Ek)=F
   clear hl'
   simp only [pd]
   simp [Ek,KL5,aa,h1,hix,hiy,w1,k17,q1,q2,q3,q4,qw,qx,cX,eqF,hn])
  (fun u _=>by
   rw [ay]
   generalize (mu K5).code (.aj 3 [1,2,5,9,10] Ek)=F
   simp [Ek]) () trivial
 simp only [List.length_nil,Int.natCast_zero] at key
 have hit:∀ l:List Rf,iter (fun (_:Unit) (q:Rf)=>(.inl ():Unit ⊕ Unit)) () l=.inl ():=fun l=>by
  induction l with
  | nil=>rfl
  | cons x l ih=>simpa [iter] using ih
 rw [hit] at key
 exact key.2
theorem Mi (hv:∀ r∈p.aA.l,(findF p.uses.l l.l r).isSome=true) (hP:P.kg.l=p.aA.l.map (pcR p.uses.l l.l)) (hs:p.aA.l.length<=1000):∃ env,
  (mu K5).code (.aj 3 [1,2,5,14] El) ⟨[(1,l.avS Sc.av),(2,.ptr (h.length,0) 0),(5,.ptr (h.length,1) 0),(14,iV 0)],[.box 26 false p.av,.box 36 false P.av,.box 26 false n] :: h⟩ =
   some (.exit 2,⟨env,[.box 26 false p.av,.box 36 false P.av,.box 26 false n] :: h⟩)∧get env 5=.ptr (h.length,1) 0:=by
 have q1:=au _ dI p.uses
 have q2:=au _ dh p.aA
 have q3:=au _ cW p.nodes
 have q4:=au _ I8 P.kg
 have pd:P.av=.agg [P.kg.avS Pc.av,P.comm.avS Pc.av,P.atoms.avS Pt.av,P.gJ.avS Gt.av,P.sq.avS Pt.av]:=rfl
 have key:=aF (K:=K5) (n:=3) (live:=[1,2,5,14]) (a:=El) (fun (_:Unit) (q:Rf)=>(.inl ():Unit ⊕ Unit))
  (fun pre _=>⟨[(1,l.avS Sc.av),(2,.ptr (h.length,0) 0),(5,.ptr (h.length,1) 0),(14,iV (pre.length:Int))],[.box 26 false p.av,.box 36 false P.av,.box 26 false n] :: h⟩) (fun _ _=>True)
  (fun _ o=>∃ env,o=some (.exit 2,⟨env,[.box 26 false p.av,.box 36 false P.av,.box 26 false n] :: h⟩)∧get env 5=.ptr (h.length,1) 0) (fun _ o=>False) p.aA.l
  (fun pre x r u hl' _=>by
   obtain ⟨h1,h2,w1⟩:=aG hl' (by omega)
   have hix:=fun (k:IntKind)=>aH (av:=Rf.av) (sz:=2) (s:=p.aA) (k:=k) (j:=(pre.length:Int)) (x:=x) (by omega) (by simpa using h2) rfl
   have hiy:=fun (k:IntKind)=>aH (av:=Pc.av) (sz:=2) (s:=P.kg) (k:=k) (j:=(pre.length:Int)) (x:=pcR p.uses.l l.l x) (by omega) (by
    rw [hP,List.getElem?_map]
    simp only [Int.toNat_natCast] at h2 ⊢
    rw [h2];rfl) rfl
   obtain ⟨⟨u1,k1,f1⟩,hf⟩:=Option.isSome_iff_exists.1 (hv x (by rw [hl'];simp))
   have k17:=fun h=>Cv (f17 p hp.uses.1 l hl x h)
   have ep:(pcR p.uses.l l.l x)=⟨(u1:Int),(k1:Int)+2⟩:=by unfold pcR;rw [hf]
   rw [hf] at k17
   rw [ep] at hiy
   simp only [iW,iM,Option.isSome_some] at k17
   have qw:=au _ bX f1.words
   have qx:x.av.beq x.av=true:=dh x
   rw [ay]
   generalize (mu K5).code (.aj 3 [1,2,5,14] El)=F
   clear hl'
   simp only [pd]
   simp [El,KL5,aa,h1,hix,hiy,w1,k17,q1,q2,q3,q4,qw,qx,cX,eqF,hn])
  (fun u _=>by
   rw [ay]
   generalize (mu K5).code (.aj 3 [1,2,5,14] El)=F
   simp [El]) () trivial
 simp only [List.length_nil,Int.natCast_zero] at key
 have hit:∀ l:List Rf,iter (fun (_:Unit) (q:Rf)=>(.inl ():Unit ⊕ Unit)) () l=.inl ():=fun l=>by
  induction l with
  | nil=>rfl
  | cons x l ih=>simpa [iter] using ih
 rw [hit] at key
 exact key.2
theorem Mj (hb:∀ a∈P.sq.l,64<=a.hi - a.lo∧a.hi - a.lo<=4611686018427387904) (hs:P.sq.l.length<=1000):∃ env,
  (mu K5).code (.aj 3 [5,18] Em) ⟨[(5,.ptr (h.length,1) 0),(18,iV 0)],[.box 26 false p.av,.box 36 false P.av,.box 26 false n] :: h⟩ =
   some (.exit 4,⟨env,[.box 26 false p.av,.box 36 false P.av,.box 26 false n] :: h⟩):=by
 have q4:=au _ OY P.sq
 have pd:P.av=.agg [P.kg.avS Pc.av,P.comm.avS Pc.av,P.atoms.avS Pt.av,P.gJ.avS Gt.av,P.sq.avS Pt.av]:=rfl
 have key:=aF (K:=K5) (n:=3) (live:=[5,18]) (a:=Em) (fun (_:Unit) (q:Pt)=>(.inl ():Unit ⊕ Unit))
  (fun pre _=>⟨[(5,.ptr (h.length,1) 0),(18,iV (pre.length:Int))],[.box 26 false p.av,.box 36 false P.av,.box 26 false n] :: h⟩) (fun _ _=>True)
  (fun _ o=>∃ env,o=some (.exit 4,⟨env,[.box 26 false p.av,.box 36 false P.av,.box 26 false n] :: h⟩)) (fun _ o=>False) P.sq.l
  (fun pre x r u hl' _=>by
   obtain ⟨h1,h2,w1⟩:=aG hl' (by omega)
   have hix:=fun (k:IntKind)=>aH (av:=Pt.av) (sz:=5) (s:=P.sq) (k:=k) (j:=(pre.length:Int)) (x:=x) (by omega) (by simpa using h2) rfl
   obtain ⟨b1,b2⟩:=hb x (by rw [hl'];simp)
   have w2:IntKind.i64.wrap (x.hi - x.lo)=x.hi - x.lo:=wrap64 (by omega) (by omega)
   have c2:(x.hi - x.lo < 64)=False:=eq_false (by omega)
   rw [ay]
   generalize (mu K5).code (.aj 3 [5,18] Em)=F
   clear hl'
   simp only [pd]
   simp [Em,KL5,aa,h1,hix,w1,w2,c2,q4,hn])
  (fun u _=>by
   rw [ay]
   generalize (mu K5).code (.aj 3 [5,18] Em)=F
   simp [Em]) () trivial
 simp only [List.length_nil,Int.natCast_zero] at key
 have hit:∀ l:List Pt,iter (fun (_:Unit) (q:Pt)=>(.inl ():Unit ⊕ Unit)) () l=.inl ():=fun l=>by
  induction l with
  | nil=>rfl
  | cons x l ih=>simpa [iter] using ih
 rw [hit] at key
 exact key.2
end
theorem I9 {refs:List Rf} {fd:Nd->Pol.Fd} (c:Cd):∀ a∈(eF refs fd c).2.1,64<=a.hi - a.lo:=by
 have key:∀ (c:Cd) (a:Pt),bI refs fd c=some a->64<=a.hi - a.lo:=fun c a e=>by
  cases c with
  | gate need ks=>simp [bI] at e
  | atom k num vs=>
   simp only [bI] at e
   split at e
   ·split at e
    ·split at e
     ·rename_i q
      injection e with e
      subst e
      exact q
     ·cases e
    ·cases e
   ·cases e
 intro a ha
 unfold eF at ha
 split at ha
 ·rename_i b hw
  rw [List.mem_singleton.1 ha]
  exact key c b hw
 ·cases c with
  | atom k num ns=>simp at ha
  | gate need ks=>
   simp only at ha
   split at ha
   ·obtain ⟨c,_,e⟩:=List.mem_filterMap.1 ha
    exact key c a e
   ·simp at ha
theorem vQ {n:Nat}:∀ {L:List Pt},zA n L=0->∀ a∈L,ptE a n=0
 | [],_,a,h=>by cases h
 | x :: L,e,a,h=>by
  simp only [zA] at e
  split at e
  ·exact absurd e (by decide)
  split at e
  ·rename_i q;exact absurd e q
  ·rename_i q
   rcases List.mem_cons.1 h with rfl | h
   ·simpa using q
   ·exact vQ e a h
theorem Fj {p:Pl} (h:Ja p=0):zA p.comm.l.length p.sq.l=0:=by
 unfold Ja at h
 split at h
 ·exact absurd h (by decide)
 split at h
 ·exact absurd h (by decide)
 split at h
 ·exact absurd h (by decide)
 split at h
 ·rename_i c2;exact absurd h c2
 split at h
 ·rename_i c2;exact absurd h c2
 ·exact h
theorem WY (p:Po) (hp:aPo p) (l:Sl Sc) (hl:oh aSc l):(mu K5).fn 4 [p.av,l.avS Sc.av] []=some (.val (.bool true) []):=by
 have k10:=fun h=>Cv (f10 p l h)
 have q1:=au _ dI p.uses
 have q2:=au _ dh p.aA
 have q3:=au _ cW p.nodes
 have q4:=au _ fo l
 have aw:=fun f=>up5 (Ml f)
 rw [aD (KX5 _ _ _) (Ue fn4) rfl (by simp [c4])]
 cases hf:Cw p l.l
 ·rw [hf] at k10
  simp [c4,KL5,aa,k10,aw,q1,q2,q3]
 rw [hf] at k10
 obtain ⟨z,zl,h30⟩:=Jb hp hl hf
 obtain ⟨t,ht⟩:=Hs p
 have k12:=fun h=>f12 p z l zl t ht (by omega) h
 have k15:=fun h=>Cv (f15 p z l zl t ht (size_le ht (by omega)) h)
 have pdn:∀ q:Po,q.av.beq q.av=true:=fun q=>by simp [AV.beq,AV.dF,au _ dI,au _ dh,au _ cW]
 by_cases h0:(iq p l.l t).2=0
 case neg=>
  rw [Ht h0,Bi] at k12
  generalize hQ:(fN p l.l t).1=Q at *
  simp [c4,KL5,aa,k10,k12,k15,h0,aw,q1,q2,q3]
 obtain ⟨hc,ha,ok,hF,g,hfit,he⟩:=Hu ht (by omega) h0
 have hsz:(aV p l.l t).size<=380:=by
  have:=norm_le g l.l
  omega
 have hr:=Cx ok (by omega)
 have hsq:Sz (aX p l.l t):=vR z g (by omega)
 have k16:=fun h=>Uf (aX p l.l t) hsq ok.chk (bD 0 (aV p l.l t)) ok.good h
 have e0:(fN p l.l t).2=0:=by
  by_cases c:(fN p l.l t).2=0
  ·exact c
  ·exfalso
   unfold iq at h0
   rw [if_pos c] at h0
   exact c h0
 rw [ok.eq,e0] at k15
 have WZ:∀ a∈(iq p l.l t).1.sq.l,64<=a.hi - a.lo∧a.hi - a.lo<=4611686018427387904:=fun a ham=>by
  have h1:=Fk (by have:=ha.sz.comm;omega) (vQ (Fj hc) a ham)
  have h2:=vQ (Fj hc) a ham
  refine ⟨?_,?_⟩
  ·rw [he] at ham
   simp only at ham
   rcases vS ok hF with ⟨e,_⟩ | ⟨_,e⟩
   ·rw [e] at ham;simp at ham
   ·rw [e] at ham;exact I9 _ a ham
  ·unfold ptE at h2
   split at h2
   ·exact absurd h2 (by decide)
   split at h2
   ·rename_i ho
    unfold Cy cJ at ho
    simp only [Bool.and_eq_true] at ho
    obtain ⟨_,ho⟩:=ho
    repeat' split at ho
    all_goals (simp only [decide_eq_true_eq] at ho;omega)
   ·exact absurd h2 (by decide)
 have N2:(iq p l.l t).1.comm.l=(bA p l.l t).map (pcR p.uses.l l.l):=by rw [he]
 have N3:(iq p l.l t).1.kg.l=p.aA.l.map (pcR p.uses.l l.l):=by rw [he]
 have hrl:p.aA.l.length<=1000:=by have:=ok.Hv;omega
 generalize hP:(iq p l.l t).1=P at *
 rw [h0] at k12
 have nr:∀ f:Loc->Bool,(aX p l.l t).av.aJ f=true:=fun f=>Cz f _
 obtain ⟨vT,k1,x1,x2,x5⟩:=Mh p z l zl P (aX p l.l t).av nr [] (bA p l.l t) ok.found N2 hr
 obtain ⟨qB,k2,y5⟩:=Mi p z l zl P (aX p l.l t).av nr [] ok.aA N3 hrl
 obtain ⟨Jc,k3⟩:=Mj p z l zl P (aX p l.l t).av nr [] WZ (by have:=ha.sz.sq;omega)
 have e1:P.comm.l.length=(bA p l.l t).length:=by rw [N2];simp
 have e2:P.kg.l.length=p.aA.l.length:=by rw [N3];simp
 have W4:∀ h,(mu K5).fn 16 [(aX p l.l t).av] h=some (.val (.lst ((bA p l.l t).map Rf.av)) h):=k16
 generalize bA p l.l t=refs at *
 generalize aX p l.l t=N at *
 have r1:=au _ dI N.uses
 have r2:=au _ dh N.aA
 have r3:=au _ cW N.nodes
 have pd:P.av=.agg [P.kg.avS Pc.av,P.comm.avS Pc.av,P.atoms.avS Pt.av,P.gJ.avS Gt.av,P.sq.avS Pt.av]:=rfl
 simp at k1 k2 k3 x2 x5 y5
 simp only [pd] at k12 k1 k2 k3
 simp [c4,KL5,aa,k10,k12,k15,W4,aw,q1,q2,q3,e1,e2,k1,k2,k3,x1,x2,x5,y5]
end Go.Ab.Pn
/-
  A closed fact of the program: whether a call may enter.
-/
namespace Go.Proofs.YtjnomgdildcbhaaGreatDoor
theorem Hw:Tryz.prog.mayEnter=true:=by kernel_rfl
end Go.Proofs.YtjnomgdildcbhaaGreatDoor
/-
  A closed fact of the program: what is lifted.
-/
namespace Go.Proofs.YtjnomgdildcbhaaGreatDoor
theorem OZ:Tryz.prog.liftsFinal=Rows.planAtomsRow.lifted:=by kernel_rfl
end Go.Proofs.YtjnomgdildcbhaaGreatDoor
/-
  A closed fact of the program: how it was made.
-/
namespace Go.Proofs.YtjnomgdildcbhaaGreatDoor
theorem Ug:Tryz.prog.make=some Rows.planAtomsRow.make:=by kernel_rfl
end Go.Proofs.YtjnomgdildcbhaaGreatDoor
/-
  The world in which the listed tables lie as the rows say.
-/
namespace Go.Proofs.YtjnomgdildcbhaaGreatDoor
def Hx (d:DataW Unit):Array Value:=
 match d with
 | .agg l=>(l.map fun | .lit (.int k n)=>Value.int k n | _=>Value.int .i64 0).toArray
 | _=>#[]
noncomputable def nG (os:Os):World:=
 let w0:=World.holding Tryz.prog os ⟨#[],#[],[]⟩
 let put:=fun (h:Array Obj) (g:Nat) (d:DataW Unit)=>h.modify g fun
   | .cells _ t frozen=>.cells (Hx d) t frozen
   | o=>o
 { w0 with heap:=put (put (put w0.heap 1 Rows.laid_math_bits_deBruijn32tab) 2 Rows.laid_math_bits_deBruijn64tab) 0 Rows.laid_internal_strconv_uint64pow10 }
set_option maxRecDepth 100000 in
theorem Jd (os:Os) (args:Array Value):laidMet Tryz.prog Rows.planAtomsRow.laid ((nG os).forCall (fun _ _=>0) ⟨#[],args,[]⟩).memory:=
 laidMet_of_run' 8 (by kernel_rfl) (by kernel_rfl)
set_option maxRecDepth 100000 in
theorem Hy (os:Os) (args:Array Value):((nG os).forCall (fun _ _=>0) ⟨#[],args,[]⟩).variablesB Tryz.prog=true:=by kernel_rfl
set_option maxRecDepth 100000 in
theorem Hz (os : Os) (args : Array Value) : ((((nG os).forCall (fun _ _ => 0) ⟨#[], args, []⟩).heap.toList.drop Tryz.prog.globals.size).take ((begin Tryz.prog (fun _ _ => 0) default).world.heap.size - Tryz.prog.globals.size) =
      (begin Tryz.prog (fun _ _=>0) default).world.heap.toList.drop Tryz.prog.globals.size):=by kernel_rfl
end Go.Proofs.YtjnomgdildcbhaaGreatDoor
