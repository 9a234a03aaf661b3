/-
  The sizes that the statements of chapter 47 name.
-/
import Derived.Test.YtjnomgdildcbhaaGreatDoorAb4dP35
import Derived.Test.YtjnomgdildcbhaaGreatDoorAbPlanP
import Derived.Test.YtjnomgdildcbhaaGreatDoorAb4dT2
import Derived.Test.YtjnomgdildcbhaaGreatDoorAb4dS8
import Derived.Test.YtjnomgdildcbhaaGreatDoorAb4dS4
set_option linter.unusedVariables false
set_option linter.unusedSimpArgs false
set_option linter.unusedSectionVars false
namespace Go.Ab.Pn
open Go.Ab.Pol
set_option maxRecDepth 100000
set_option maxHeartbeats 4000000
def smF (f:Pol.Fd):Bool:=decide (f.words.l.length<=70) && decide (f.name.length<=60)
def smS (s:Sc):Bool:=decide (s.fields.l.length<=20) && decide (s.name.length<=60) && s.fields.l.all smF
def Cw (p:Po) (l:List Sc):Bool:=decide (l.length<=6) && Ag p && decide (p.nodes.l.length<=30) && l.all smS
theorem JO (p:Po) (l:Sl Sc) (i:Nat) (s:Sc) (hs:l.l[i]?=some s) (hl:s.fields.l.length<=1000) (h:Heap) :
  (s.fields.l.all smF=true->∃ env,(mu K).code (.aj 1 [1,5,6] oq) ⟨[(1,l.avS Sc.av),(5,iV (i:Int)),(6,iV 0)],[.box 26 false p.av] :: h⟩=some (.exit 2,⟨env,[.box 26 false p.av] :: h⟩)∧get env 1=l.avS Sc.av∧get env 5=iV (i:Int)) ∧
  (s.fields.l.all smF=false->∃ env R,(mu K).code (.aj 1 [1,5,6] oq) ⟨[(1,l.avS Sc.av),(5,iV (i:Int)),(6,iV 0)],[.box 26 false p.av] :: h⟩=some (.ret,⟨env,R :: h⟩)∧get env 4=.bool false):=by
 have q1:=au _ vP s.fields
 have his:=fun (k:IntKind)=>aH (av:=Sc.av) (sz:=2) (s:=l) (k:=k) (j:=(i:Int)) (x:=s) (by omega) (by simpa using hs) rfl
 have key:=aF (K:=K) (n:=1) (live:=[1,5,6]) (a:=oq) (fun (_:Unit) (f:Pol.Fd)=>if smF f=true then (.inl ():Unit ⊕ Unit) else .inr ())
  (fun pre _=>⟨[(1,l.avS Sc.av),(5,iV (i:Int)),(6,iV (pre.length:Int))],[.box 26 false p.av] :: h⟩) (fun _ _=>True)
  (fun _ o=>∃ env,o=some (.exit 2,⟨env,[.box 26 false p.av] :: h⟩)∧get env 1=l.avS Sc.av∧get env 5=iV (i:Int))
  (fun _ o=>∃ env R,o=some (.ret,⟨env,R :: h⟩)∧get env 4=.bool false) s.fields.l
  (fun pre x r b hl' hb=>by
   obtain ⟨h1,h2,w1⟩:=aG hl' (by omega)
   have hix:=fun (k:IntKind)=>aH (av:=Pol.Fd.av) (sz:=5) (s:=s.fields) (k:=k) (j:=(pre.length:Int)) (x:=x) (by omega) (by simpa using h2) rfl
   have q2:=au _ bX x.words
   rw [ay]
   generalize (mu K).code (.aj 1 [1,5,6] oq)=F
   clear hl'
   unfold smF
   by_cases e:x.words.l.length<=70
   case neg=>
    have d:((70:Int) < (x.words.l.length:Int))=True:=by simp;omega
    simp [oq,KL,aa,h1,his,hix,w1,d,e,q1,q2]
   have d:((70:Int) < (x.words.l.length:Int))=False:=by simp;omega
   have d2:(x.words.l.length<=70)=True:=by simp [e]
   by_cases e3:x.name.length<=60
   ·have d3:((60:Int) < (x.name.length:Int))=False:=by simp;omega
    have d4:(x.name.length<=60)=True:=by simp [e3]
    simp [oq,KL,aa,h1,his,hix,w1,d,d2,d3,d4,q1,q2]
   ·have d3:((60:Int) < (x.name.length:Int))=True:=by simp;omega
    simp [oq,KL,aa,h1,his,hix,w1,d,d2,d3,e3,q1,q2])
  (fun b _=>by
   rw [ay]
   generalize (mu K).code (.aj 1 [1,5,6] oq)=F
   simp [oq,his,q1]) () trivial
 simp only [List.length_nil,Int.natCast_zero] at key
 refine ⟨fun e=>?_,fun e=>?_⟩
 ·rw [(bq smF s.fields.l).1 e] at key
  exact key.2
 ·rw [(bq smF s.fields.l).2 e] at key
  exact key
theorem f10 (p:Po) (l:Sl Sc) (h:Heap):(mu K).fn 10 [p.av,l.avS Sc.av] h=some (.val (.bool (Cw p l.l)) h):=by
 have q1:=au _ dI p.uses
 have q2:=au _ dh p.aA
 have q3:=au _ cW p.nodes
 have q4:=au _ fo l
 have k32:=fun h=>f32 p h
 rw [aD (KX _ _ _) WG rfl (by simp [c10])]
 unfold Cw
 by_cases c0:l.l.length<=6
 case neg=>
  have d:((6:Int) < (l.l.length:Int))=True:=by simp;omega
  simp [c10,KL,aa,c0,d]
 have d0:((6:Int) < (l.l.length:Int))=False:=by simp;omega
 have d0':(l.l.length<=6)=True:=by simp [c0]
 cases e0:Ag p with
 | false=>
  rw [e0] at k32
  simp [c10,KL,aa,d0,d0',k32,q1,q2,q3]
 | true=>
 rw [e0] at k32
 by_cases c1:p.nodes.l.length<=30
 case neg=>
  have d:((30:Int) < (p.nodes.l.length:Int))=True:=by simp;omega
  simp [c10,KL,aa,d0,d0',k32,q1,q2,q3,c1,d]
 have d1:((30:Int) < (p.nodes.l.length:Int))=False:=by simp;omega
 have d1':(p.nodes.l.length<=30)=True:=by simp [c1]
 have key:=aF (K:=K) (n:=1) (live:=[1,5]) (a:=qm) (fun (_:Unit) (s:Sc)=>if smS s=true then (.inl ():Unit ⊕ Unit) else .inr ())
  (fun pre _=>⟨[(1,l.avS Sc.av),(5,iV (pre.length:Int))],[.box 26 false p.av] :: h⟩) (fun _ _=>True)
  (fun _ o=>∃ env,o=some (.exit 0,⟨env,[.box 26 false p.av] :: h⟩))
  (fun _ o=>∃ env R,o=some (.ret,⟨env,R :: h⟩)∧get env 4=.bool false) l.l
  (fun pre x r b hl' hb=>by
   obtain ⟨h1,h2,w1⟩:=aG hl' (by omega)
   have hix:=fun (k:IntKind)=>aH (av:=Sc.av) (sz:=2) (s:=l) (k:=k) (j:=(pre.length:Int)) (x:=x) (by omega) (by simpa using h2) rfl
   have q5:=au _ vP x.fields
   have inner:=JO p l pre.length x h2
   rw [ay]
   generalize (mu K).code (.aj 1 [1,5] qm)=F
   clear hl'
   unfold smS
   by_cases e:x.fields.l.length<=20
   case neg=>
    have d:((20:Int) < (x.fields.l.length:Int))=True:=by simp;omega
    simp [-List.all_eq_true,qm,KL,aa,h1,hix,w1,d,e,q4,q5]
   have d:((20:Int) < (x.fields.l.length:Int))=False:=by simp;omega
   have d2:(x.fields.l.length<=20)=True:=by simp [e]
   by_cases e2:x.name.length<=60
   case neg=>
    have d3:((60:Int) < (x.name.length:Int))=True:=by simp;omega
    simp [-List.all_eq_true,qm,KL,aa,h1,hix,w1,d,d2,d3,e2,q4,q5]
   have d3:((60:Int) < (x.name.length:Int))=False:=by simp;omega
   have d4:(x.name.length<=60)=True:=by simp [e2]
   cases e3:x.fields.l.all smF with
   | true=>
    obtain ⟨env,k,g1,g5⟩:=(inner (by omega) h).1 e3
    simp [-List.all_eq_true,qm,KL,aa,h1,hix,w1,d,d2,d3,d4,q4,q5,k,g1,g5]
   | false=>
    obtain ⟨env,R,k,g4⟩:=(inner (by omega) h).2 e3
    simp [-List.all_eq_true,qm,KL,aa,h1,hix,w1,d,d2,d3,d4,q4,q5,k,g4])
  (fun b _=>by
   rw [ay]
   generalize (mu K).code (.aj 1 [1,5] qm)=F
   simp [qm,q4]) () trivial
 simp only [List.length_nil,Int.natCast_zero] at key
 cases e:l.l.all smS with
 | false=>
  rw [(bq smS l.l).2 e] at key
  obtain ⟨env,R,k,g4⟩:=key
  simp [-List.all_eq_true,c10,KL,aa,d0,d0',k32,q1,q2,q3,d1,d1',k,g4]
 | true=>
  rw [(bq smS l.l).1 e] at key
  obtain ⟨_,env,k⟩:=key
  simp [-List.all_eq_true,c10,KL,aa,d0,d0',k32,q1,q2,q3,d1,d1',k]
theorem Jb {p:Po} (hp:aPo p) {l:Sl Sc} (hl:oh aSc l) (h:Cw p l.l=true):Sz p∧okL l∧p.nodes.l.length<=30:=by
 unfold Cw at h
 simp only [Bool.and_eq_true,decide_eq_true_eq] at h
 obtain ⟨⟨⟨h3,h2⟩,h4⟩,h1⟩:=h
 refine ⟨Ju hp h2,⟨by omega,fun s hs=>?_⟩,h4⟩
 have a:=hl.2 s hs
 have b:=List.all_eq_true.1 h1 s hs
 unfold smS at b
 simp only [Bool.and_eq_true,decide_eq_true_eq] at b
 refine ⟨a.name,by omega,fun f hf=>?_⟩
 have c:=a.fields.2 f hf
 have d:=List.all_eq_true.1 b.2 f hf
 unfold smF at d
 simp only [Bool.and_eq_true,decide_eq_true_eq] at d
 exact ⟨c.name,by omega,c.words.2⟩
theorem Hs (p:Po):∃ t,chk p=0->Pol.Good p t:=by
 by_cases h:chk p=0
 ·obtain ⟨t,g⟩:=C2 h
  exact ⟨t,fun _=>g⟩
 ·exact ⟨.nd 0 (bg 0) [],fun e=>absurd e h⟩
end Go.Ab.Pn
/-
  EA: lists put one behind the other, places that U4 twice.
-/
namespace Go.Ab.Pn
open Go.Ab.Pol
set_option maxRecDepth 100000
set_option maxHeartbeats 2000000
end Go.Ab.Pn
/-
  The check of a plan: program and reference.
-/
namespace Go.Ab.Pn
open Go.Ab.Pol
set_option maxRecDepth 100000
set_option maxHeartbeats 4000000
/- The first error of a list. -/
structure SzP (p:Pl):Prop where
 kg:p.kg.l.length<=1000
 comm:p.comm.l.length<=1000
 atoms:p.atoms.l.length<=1000
 sq:p.sq.l.length<=1000
 gJ:okG p.gJ.l
/- EA that U4 twice: the reference. -/
theorem Bu (x:Pc):∀ l:List Pc,iter (fun (_:Unit) (y:Pc)=>if x=y then (.inr ():Unit ⊕ Unit) else .inl ()) () l=if x∈l then .inr () else .inl ()
 | []=>rfl
 | y :: l=>by
  simp only [iter]
  by_cases h:x=y
  ·simp [h]
  ·simp [h,Bu x l]
end Go.Ab.Pn
/-
  The check of a plan: the program.
-/
namespace Go.Ab.Pn
open Go.Ab.Pol
set_option maxRecDepth 100000
set_option maxHeartbeats 4000000
end Go.Ab.Pn
/-
  The check of a plan: the reference.
-/
namespace Go.Ab.Pn
open Go.Ab.Pol
set_option maxRecDepth 100000
set_option maxHeartbeats 4000000
end Go.Ab.Pn
