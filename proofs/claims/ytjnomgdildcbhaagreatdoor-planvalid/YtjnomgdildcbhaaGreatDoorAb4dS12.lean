/-
  The sizes that the statements of chapter 47 name.
-/
import Derived.Test.YtjnomgdildcbhaaGreatDoorAb4dP35
import Derived.Test.YtjnomgdildcbhaaGreatDoorAbPlanP
import Derived.Test.YtjnomgdildcbhaaGreatDoorAb4dT2
import Derived.Test.YtjnomgdildcbhaaGreatDoorAb4dS8
import Derived.Test.YtjnomgdildcbhaaGreatDoorAb4dS4
set_option linter.unusedVariables false
set_option linter.unusedSimpArgs false
set_option linter.unusedSectionVars false
namespace Go.Ab.Pn
open Go.Ab.Pol
set_option maxRecDepth 100000
set_option maxHeartbeats 4000000
def smF (f:Pol.Fd):Bool:=decide (f.words.l.length<=70) && decide (f.name.length<=60)
def smS (s:Sc):Bool:=decide (s.fields.l.length<=20) && decide (s.name.length<=60) && s.fields.l.all smF
def BF (p:Po) (l:List Sc):Bool:=decide (l.length<=6) && zo p && decide (p.nodes.l.length<=30) && l.all smS
theorem IU (p:Po) (l:Sl Sc) (i:Nat) (s:Sc) (hs:l.l[i]?=some s) (hl:s.fields.l.length<=1000) (h:aj) :
  (s.fields.l.all smF=true->∃ env,(mu K).code (.ak 1 [1,5,6] nY) ⟨[(1,l.avS Sc.av),(5,iV (i:Int)),(6,iV 0)],[.box 26 false p.av] :: h⟩=some (.exit 2,⟨env,[.box 26 false p.av] :: h⟩)∧get env 1=l.avS Sc.av∧get env 5=iV (i:Int)) ∧
  (s.fields.l.all smF=false->∃ env R,(mu K).code (.ak 1 [1,5,6] nY) ⟨[(1,l.avS Sc.av),(5,iV (i:Int)),(6,iV 0)],[.box 26 false p.av] :: h⟩=some (.ret,⟨env,R :: h⟩)∧get env 4=.bool false):=by
 have q1:=ay _ AG s.fields
 have his:=fun (k:IntKind)=>aI (av:=Sc.av) (sz:=2) (s:=l) (k:=k) (j:=(i:Int)) (x:=s) (by omega) (by simpa using hs) rfl
 have key:=aF (K:=K) (n:=1) (live:=[1,5,6]) (a:=nY) (fun (_:Unit) (f:Pol.Fd)=>if smF f=true then (.inl ():Unit ⊕ Unit) else .inr ())
  (fun pre _=>⟨[(1,l.avS Sc.av),(5,iV (i:Int)),(6,iV (pre.length:Int))],[.box 26 false p.av] :: h⟩) (fun _ _=>True)
  (fun _ o=>∃ env,o=some (.exit 2,⟨env,[.box 26 false p.av] :: h⟩)∧get env 1=l.avS Sc.av∧get env 5=iV (i:Int))
  (fun _ o=>∃ env R,o=some (.ret,⟨env,R :: h⟩)∧get env 4=.bool false) s.fields.l
  (fun pre x r b hl' hb=>by
   obtain ⟨h1,h2,w1⟩:=aG hl' (by omega)
   have hix:=fun (k:IntKind)=>aI (av:=Pol.Fd.av) (sz:=5) (s:=s.fields) (k:=k) (j:=(pre.length:Int)) (x:=x) (by omega) (by simpa using h2) rfl
   have q2:=ay _ cZ x.words
   rw [aq]
   generalize (mu K).code (.ak 1 [1,5,6] nY)=F
   clear hl'
   unfold smF
   by_cases e:x.words.l.length<=70
   case neg=>
    have d:((70:Int) < (x.words.l.length:Int))=True:=by simp;omega
    simp [nY,KL,aa,h1,his,hix,w1,d,e,q1,q2]
   have d:((70:Int) < (x.words.l.length:Int))=False:=by simp;omega
   have d2:(x.words.l.length<=70)=True:=by simp [e]
   by_cases e3:x.name.length<=60
   ·have d3:((60:Int) < (x.name.length:Int))=False:=by simp;omega
    have d4:(x.name.length<=60)=True:=by simp [e3]
    simp [nY,KL,aa,h1,his,hix,w1,d,d2,d3,d4,q1,q2]
   ·have d3:((60:Int) < (x.name.length:Int))=True:=by simp;omega
    simp [nY,KL,aa,h1,his,hix,w1,d,d2,d3,e3,q1,q2])
  (fun b _=>by
   rw [aq]
   generalize (mu K).code (.ak 1 [1,5,6] nY)=F
   simp [nY,his,q1]) () trivial
 simp only [List.length_nil,Int.natCast_zero] at key
 refine ⟨fun e=>?_,fun e=>?_⟩
 ·rw [(bu smF s.fields.l).1 e] at key
  exact key.2
 ·rw [(bu smF s.fields.l).2 e] at key
  exact key
theorem f10 (p:Po) (l:Sl Sc) (h:aj):(mu K).fn 10 [p.av,l.avS Sc.av] h=some (.val (.bool (BF p l.l)) h):=by
 have q1:=ay _ fH p.uses
 have q2:=ay _ fI p.aB
 have q3:=ay _ dZ p.nodes
 have q4:=ay _ fJ l
 have k32:=fun h=>f32 p h
 rw [aC (KX _ _ _) VM rfl (by simp [c10])]
 unfold BF
 by_cases c0:l.l.length<=6
 case neg=>
  have d:((6:Int) < (l.l.length:Int))=True:=by simp;omega
  simp [c10,KL,aa,c0,d]
 have d0:((6:Int) < (l.l.length:Int))=False:=by simp;omega
 have d0':(l.l.length<=6)=True:=by simp [c0]
 cases e0:zo p with
 | false=>
  rw [e0] at k32
  simp [c10,KL,aa,d0,d0',k32,q1,q2,q3]
 | true=>
 rw [e0] at k32
 by_cases c1:p.nodes.l.length<=30
 case neg=>
  have d:((30:Int) < (p.nodes.l.length:Int))=True:=by simp;omega
  simp [c10,KL,aa,d0,d0',k32,q1,q2,q3,c1,d]
 have d1:((30:Int) < (p.nodes.l.length:Int))=False:=by simp;omega
 have d1':(p.nodes.l.length<=30)=True:=by simp [c1]
 have key:=aF (K:=K) (n:=1) (live:=[1,5]) (a:=pV) (fun (_:Unit) (s:Sc)=>if smS s=true then (.inl ():Unit ⊕ Unit) else .inr ())
  (fun pre _=>⟨[(1,l.avS Sc.av),(5,iV (pre.length:Int))],[.box 26 false p.av] :: h⟩) (fun _ _=>True)
  (fun _ o=>∃ env,o=some (.exit 0,⟨env,[.box 26 false p.av] :: h⟩))
  (fun _ o=>∃ env R,o=some (.ret,⟨env,R :: h⟩)∧get env 4=.bool false) l.l
  (fun pre x r b hl' hb=>by
   obtain ⟨h1,h2,w1⟩:=aG hl' (by omega)
   have hix:=fun (k:IntKind)=>aI (av:=Sc.av) (sz:=2) (s:=l) (k:=k) (j:=(pre.length:Int)) (x:=x) (by omega) (by simpa using h2) rfl
   have q5:=ay _ AG x.fields
   have inner:=IU p l pre.length x h2
   rw [aq]
   generalize (mu K).code (.ak 1 [1,5] pV)=F
   clear hl'
   unfold smS
   by_cases e:x.fields.l.length<=20
   case neg=>
    have d:((20:Int) < (x.fields.l.length:Int))=True:=by simp;omega
    simp [-List.all_eq_true,pV,KL,aa,h1,hix,w1,d,e,q4,q5]
   have d:((20:Int) < (x.fields.l.length:Int))=False:=by simp;omega
   have d2:(x.fields.l.length<=20)=True:=by simp [e]
   by_cases e2:x.name.length<=60
   case neg=>
    have d3:((60:Int) < (x.name.length:Int))=True:=by simp;omega
    simp [-List.all_eq_true,pV,KL,aa,h1,hix,w1,d,d2,d3,e2,q4,q5]
   have d3:((60:Int) < (x.name.length:Int))=False:=by simp;omega
   have d4:(x.name.length<=60)=True:=by simp [e2]
   cases e3:x.fields.l.all smF with
   | true=>
    obtain ⟨env,k,g1,g5⟩:=(inner (by omega) h).1 e3
    simp [-List.all_eq_true,pV,KL,aa,h1,hix,w1,d,d2,d3,d4,q4,q5,k,g1,g5]
   | false=>
    obtain ⟨env,R,k,g4⟩:=(inner (by omega) h).2 e3
    simp [-List.all_eq_true,pV,KL,aa,h1,hix,w1,d,d2,d3,d4,q4,q5,k,g4])
  (fun b _=>by
   rw [aq]
   generalize (mu K).code (.ak 1 [1,5] pV)=F
   simp [pV,q4]) () trivial
 simp only [List.length_nil,Int.natCast_zero] at key
 cases e:l.l.all smS with
 | false=>
  rw [(bu smS l.l).2 e] at key
  obtain ⟨env,R,k,g4⟩:=key
  simp [-List.all_eq_true,c10,KL,aa,d0,d0',k32,q1,q2,q3,d1,d1',k,g4]
 | true=>
  rw [(bu smS l.l).1 e] at key
  obtain ⟨_,env,k⟩:=key
  simp [-List.all_eq_true,c10,KL,aa,d0,d0',k32,q1,q2,q3,d1,d1',k]
theorem HT {p:Po} (hp:aPo p) {l:Sl Sc} (hl:nU aSc l) (h:BF p l.l=true):Sz p∧okL l∧p.nodes.l.length<=30:=by
 unfold BF at h
 simp only [Bool.and_eq_true,decide_eq_true_eq] at h
 obtain ⟨⟨⟨h3,h2⟩,h4⟩,h1⟩:=h
 refine ⟨Ir hp h2,⟨by omega,fun s hs=>?_⟩,h4⟩
 have a:=hl.2 s hs
 have b:=List.all_eq_true.1 h1 s hs
 unfold smS at b
 simp only [Bool.and_eq_true,decide_eq_true_eq] at b
 refine ⟨a.name,by omega,fun f hf=>?_⟩
 have c:=a.fields.2 f hf
 have d:=List.all_eq_true.1 b.2 f hf
 unfold smF at d
 simp only [Bool.and_eq_true,decide_eq_true_eq] at d
 exact ⟨c.name,by omega,c.words.2⟩
theorem Gs (p:Po):∃ t,chk p=0->Pol.Good p t:=by
 by_cases h:chk p=0
 ·obtain ⟨t,g⟩:=Ca h
  exact ⟨t,fun _=>g⟩
 ·exact ⟨.nd 0 (bq 0) [],fun e=>absurd e h⟩
end Go.Ab.Pn
/-
  DN: lists put one behind the other, places that TY twice.
-/
namespace Go.Ab.Pn
open Go.Ab.Pol
set_option maxRecDepth 100000
set_option maxHeartbeats 2000000
theorem f120 (n:Nat) (hn:0 < n) (h2:n<=1000000) (Fr:List Blk) (h:aj):(mu K4).fn 120 [.af,iV (n:Int)] (Fr :: h)=some (.val (.own (h.length,Fr.length) 0) ((Fr++[.arr 47 2 false []]) :: h)):=by
 have e:K4.X 120 [.af,iV (n:Int)] (Fr :: h)=some (.val (.own (h.length,Fr.length) 0) ((Fr++[.arr 47 2 false []]) :: h)):=by
  show (match K.X 120 [.af,iV (n:Int)] (Fr :: h) with
   | some r=>some r
   | none=>exX 120 [.af,iV (n:Int)] (Fr :: h))=_
  rw [KX _ _ _]
  have c0:¬ (n:Int)=0:=by omega
  have c1:(0:Int) < (n:Int)∧(n:Int)<=1000000:=by omega
  show (if (n:Int)=0 then some (Out.val .af (Fr :: h)) else if (0:Int) < (n:Int)∧(n:Int)<=1000000 then some (Out.val (.own (hnext (Fr :: h)) 0) (hnew (Fr :: h) (.arr 47 2 false []))) else none)=_
  rw [if_neg c0,if_pos c1]
  rfl
 rw [dy]
 simp [step,fm,e]
theorem TZ (h:aj) (hn:h≠[]):(mu K4).fn 120 [.af,iV 0] h=some (.val .af h):=by
 obtain ⟨Fr,o,rfl⟩:=List.exists_cons_of_ne_nil hn
 have e:K4.X 120 [.af,iV 0] (Fr :: o)=some (.val .af (Fr :: o)):=by
  show (match K.X 120 [.af,iV 0] (Fr :: o) with
   | some r=>some r
   | none=>exX 120 [.af,iV 0] (Fr :: o))=_
  rw [KX _ _ _]
  rfl
 rw [dy]
 simp [step,fm,e]
theorem f65 (a b:Sl Pc) (ha:a.l.length<=1000) (hb:b.l.length<=1000) (h:aj):∃ nl,(mu K4).fn 65 [.lst [a.avS Pc.av,b.avS Pc.av]] h=some (.val (lv nl ((a.l++b.l).map Pc.av)) h):=by
 let ARG:AV:=.lst [a.avS Pc.av,b.avS Pc.av]
 have hA:ARG=.lst [a.avS Pc.av,b.avS Pc.av]:=rfl
 have i0:=fun (k:IntKind)=>eG (sz:=1) (l:=[a.avS Pc.av,b.avS Pc.av]) (k:=k) (j:=(0:Int)) (v:=a.avS Pc.av) (by decide) rfl (by simp)
 have i1:=fun (k:IntKind)=>eG (sz:=1) (l:=[a.avS Pc.av,b.avS Pc.av]) (k:=k) (j:=(1:Int)) (v:=b.avS Pc.av) (by decide) rfl (by simp)
 have w0:IntKind.i64.wrap (a.l.length:Int)=(a.l.length:Int):=wrap64 (by omega) (by omega)
 have w1:IntKind.i64.wrap ((a.l.length:Int)+(b.l.length:Int))=(a.l.length:Int)+(b.l.length:Int):=wrap64 (by omega) (by omega)
 have u1:IntKind.i64.wrap 1=1:=by decide
 have u2:IntKind.i64.wrap 2=2:=by decide
 have n0:¬ (a.l.length:Int) < 0:=by omega
 have n1:¬ (a.l.length:Int)+(b.l.length:Int) < 0:=by omega
 have s0:(mu K4).code (.ak 0 [0,3,9,10,11] lU) ⟨[(0,ARG),(3,iV 0),(9,ARG),(10,iV 2),(11,iV 0)],[] :: h⟩=(mu K4).code (.ak 0 [0,3,9,10,11] lU) ⟨[(0,ARG),(3,iV (a.l.length:Int)),(9,ARG),(10,iV 2),(11,iV 1)],[] :: h⟩:=by
  rw [aq]
  generalize (mu K4).code (.ak 0 [0,3,9,10,11] lU)=F
  simp [lU,KL4,aa,hA,i0,w0,u1,n0]
 have s1:(mu K4).code (.ak 0 [0,3,9,10,11] lU) ⟨[(0,ARG),(3,iV (a.l.length:Int)),(9,ARG),(10,iV 2),(11,iV 1)],[] :: h⟩=(mu K4).code (.ak 0 [0,3,9,10,11] lU) ⟨[(0,ARG),(3,iV ((a.l.length:Int)+(b.l.length:Int))),(9,ARG),(10,iV 2),(11,iV 2)],[] :: h⟩:=by
  rw [aq]
  generalize (mu K4).code (.ak 0 [0,3,9,10,11] lU)=F
  simp [lU,KL4,aa,hA,i1,w1,u2,n1]
 have s2:∃ env,(mu K4).code (.ak 0 [0,3,9,10,11] lU) ⟨[(0,ARG),(3,iV ((a.l.length:Int)+(b.l.length:Int))),(9,ARG),(10,iV 2),(11,iV 2)],[] :: h⟩=some (.exit 0,⟨env,[] :: h⟩)∧get env 0=ARG∧get env 3=iV ((a.l.length:Int)+(b.l.length:Int)):=by
  rw [aq]
  generalize (mu K4).code (.ak 0 [0,3,9,10,11] lU)=F
  simp [lU,KL4,aa]
 obtain ⟨env,e2,g0,g3⟩:=s2
 rw [<-s1,<-s0] at e2
 by_cases hz:a.l.length+b.l.length=0
 ·have za:a.l=[]:=List.eq_nil_of_length_eq_zero (by omega)
  have zb:b.l=[]:=List.eq_nil_of_length_eq_zero (by omega)
  have la:a.l.length=0:=by omega
  have lb:b.l.length=0:=by omega
  refine ⟨true,?_⟩
  have t0:(mu K4).code (.ak 0 [6,25,26,27] eI) ⟨[(6,.af),(25,ARG),(26,iV 2),(27,iV 0)],[] :: h⟩=(mu K4).code (.ak 0 [6,25,26,27] eI) ⟨[(6,.af),(25,ARG),(26,iV 2),(27,iV 1)],[] :: h⟩:=by
   rw [aq]
   generalize (mu K4).code (.ak 0 [6,25,26,27] eI)=F
   simp [eI,KL4,aa,hA,i0,u1,za]
  have t1:(mu K4).code (.ak 0 [6,25,26,27] eI) ⟨[(6,.af),(25,ARG),(26,iV 2),(27,iV 1)],[] :: h⟩=(mu K4).code (.ak 0 [6,25,26,27] eI) ⟨[(6,.af),(25,ARG),(26,iV 2),(27,iV 2)],[] :: h⟩:=by
   rw [aq]
   generalize (mu K4).code (.ak 0 [6,25,26,27] eI)=F
   simp [eI,KL4,aa,hA,i1,u2,zb]
  have t2:∃ env,(mu K4).code (.ak 0 [6,25,26,27] eI) ⟨[(6,.af),(25,ARG),(26,iV 2),(27,iV 2)],[] :: h⟩=some (.exit 2,⟨env,[] :: h⟩)∧get env 6=.af:=by
   rw [aq]
   generalize (mu K4).code (.ak 0 [6,25,26,27] eI)=F
   simp [eI,KL4,aa]
  obtain ⟨mz,e3,g6⟩:=t2
  rw [<-t1,<-t0] at e3
  have L0:=fun h hn=>TZ h hn
  simp only [la,lb,Int.natCast_zero,Int.add_zero] at g3
  rw [aC (KX4 _ _ _) (IV RC) rfl (by simp [c65])]
  simp only [hA] at e2 e3 g0
  simp [c65,KL4,aa,e2,g0,g3,L0,e3,g6,za,zb,lv]
 ·refine ⟨true,?_⟩
  have r1:a.l.length * 16<=room∧a.l.length<=room:=by unfold room;omega
  have r2:(a.l.length+b.l.length) * 16<=room∧a.l.length+b.l.length<=room:=by unfold room;omega
  have z1:∀ s:Sl Pc,sized 2 (s.l.map Pc.av)=true:=fun s=>by simp [sized]
  have t0:(mu K4).code (.ak 1 [6,25,26,27] eI) ⟨[(6,.own (h.length,0) 0),(25,ARG),(26,iV 2),(27,iV 0)],[.arr 47 2 false []] :: h⟩=(mu K4).code (.ak 1 [6,25,26,27] eI) ⟨[(6,.own (h.length,0) a.l.length),(25,ARG),(26,iV 2),(27,iV 1)],[.arr 47 2 false (a.l.map Pc.av)] :: h⟩:=by
   rw [aq]
   generalize (mu K4).code (.ak 1 [6,25,26,27] eI)=F
   simp [eI,KL4,aa,hA,i0,u1,r1]
  have t1:(mu K4).code (.ak 1 [6,25,26,27] eI) ⟨[(6,.own (h.length,0) a.l.length),(25,ARG),(26,iV 2),(27,iV 1)],[.arr 47 2 false (a.l.map Pc.av)] :: h⟩=(mu K4).code (.ak 1 [6,25,26,27] eI) ⟨[(6,.own (h.length,0) (a.l.length+b.l.length)),(25,ARG),(26,iV 2),(27,iV 2)],[.arr 47 2 false (a.l.map Pc.av++b.l.map Pc.av)] :: h⟩:=by
   rw [aq]
   generalize (mu K4).code (.ak 1 [6,25,26,27] eI)=F
   simp [eI,KL4,aa,hA,i1,u2,r2]
  have t2:∃ env,(mu K4).code (.ak 1 [6,25,26,27] eI) ⟨[(6,.own (h.length,0) (a.l.length+b.l.length)),(25,ARG),(26,iV 2),(27,iV 2)],[.arr 47 2 false (a.l.map Pc.av++b.l.map Pc.av)] :: h⟩=some (.exit 2,⟨env,[.arr 47 2 false (a.l.map Pc.av++b.l.map Pc.av)] :: h⟩)∧get env 6=.own (h.length,0) (a.l.length+b.l.length):=by
   rw [aq]
   generalize (mu K4).code (.ak 1 [6,25,26,27] eI)=F
   simp [eI,KL4,aa]
  obtain ⟨mz,e3,g6⟩:=t2
  rw [<-t1,<-t0] at e3
  have L0:=fun Fr h=>f120 (a.l.length+b.l.length) (by omega) (by omega) Fr h
  simp only [Int.natCast_add] at L0
  have hne:(a.l++b.l).map Pc.av≠[]:=fun e=>by
   have:=congrArg List.length e
   simp at this
   exact hz (by rw [this.1,this.2];rfl)
  rw [aC (KX4 _ _ _) (IV RC) rfl (by simp [c65])]
  rw [iY true hne]
  simp only [hA] at e2 e3 g0
  simp [c65,KL4,aa,e2,g0,g3,L0,e3,g6]
theorem IW (x y:Pc):eqK (.st [.int,.int]) x.av y.av=some (decide (x=y)):=by
 obtain ⟨a,b⟩:=x
 obtain ⟨c,d⟩:=y
 simp only [Pc.av,Pc.cs,eqK,dg,eqF,if_true]
 congr 1
 rw [Bool.eq_iff_iff]
 simp
theorem f66 (nl:Bool) (l:List Pc) (hl:l.length<=1000000) (h:aj):(mu K).fn 66 [lv nl (l.map Pc.av)] h=some (.val (.bool (decide (¬ l.Nodup))) h):=by
 have key:=aF (K:=K) (n:=1) (live:=[3,7,8,9]) (a:=uP) twF
  (fun pre met=>⟨[(3,.mp (h.length,0)),(7,lv nl (l.map Pc.av)),(8,.int .i64 (l.length:Int)),(9,.int .i64 (pre.length:Int))],[.map (eW Pc.av met)] :: h⟩) (fun _ _=>True)
  (fun met o=>∃ env,o=some (.exit 0,⟨env,[.map (eW Pc.av met)] :: h⟩)) (fun _ o=>∃ env Fr,o=some (.ret,⟨env,Fr :: h⟩)∧get env 2=.bool true) l
  (fun pre x r met hl' _=>by
   obtain ⟨h1,h2,w1⟩:=aG hl' (by omega)
   have hix:=fun (k:IntKind)=>lu (sz:=2) (nl:=nl) (l:=l.map Pc.av) (k:=k) (j:=(pre.length:Int)) (v:=x.av) (by omega) (by rw [Int.toNat_natCast,List.getElem?_map,h2];rfl) rfl
   have lk:=iK IW x met
   have uk:=jZ IW x met
   have kq:=IW x x
   have kr:=fun p=>gQ (kv:=Pc.av) p met
   have kr2:=fun p=>gQ (kv:=Pc.av) p (met++[x])
   rw [aq]
   generalize (mu K).code (.ak 1 [3,7,8,9] uP)=F
   clear hl'
   unfold twF
   by_cases hx:x∈met
   ·simp [uP,KL,aa,h1,hix,w1,kq,lk,hx]
   ·have uk:=uk hx
    simp [-List.all_eq_true,uP,KL,aa,h1,hix,w1,kq,lk,uk,hx,kr,kr2])
  (fun met _=>by
   rw [aq]
   generalize (mu K).code (.ak 1 [3,7,8,9] uP)=F
   simp [uP]) [] trivial
 simp only [List.length_nil,Int.natCast_zero] at key
 have e0:eW Pc.av []=[]:=rfl
 rw [aC (KX _ _ _) V5 rfl (by simp [c66])]
 obtain ⟨t1,t2⟩:=qG l [] (by simp)
 simp only [List.nil_append] at t1 t2
 by_cases hn:l.Nodup
 ·rw [t1 hn] at key
  obtain ⟨_,env,k⟩:=key
  rw [e0] at k
  simp [c66,KL,aa,k,hn]
 ·rw [t2 hn] at key
  obtain ⟨env,Fr,k,g2⟩:=key
  rw [e0] at k
  simp [c66,KL,aa,k,g2,hn]
theorem IX:∀ l:List Pc,twP l=decide (¬ l.Nodup)
 | []=>rfl
 | x :: l=>by
  simp only [twP,IX l,List.nodup_cons]
  rw [Bool.eq_iff_iff]
  simp only [Bool.or_eq_true,decide_eq_true_eq,Classical.not_and_iff_not_or_not,Classical.not_not]
theorem T0 (s:Sl Pc) (hl:s.l.length<=1000000) (h:aj):(mu K).fn 66 [s.avS Pc.av] h=some (.val (.bool (twP s.l)) h):=by
 rw [IX]
 exact f66 s.nl s.l hl h
end Go.Ab.Pn
/-
  The check of a plan: program and reference.
-/
namespace Go.Ab.Pn
open Go.Ab.Pol
set_option maxRecDepth 100000
set_option maxHeartbeats 4000000
/- The first error of a list. -/
def eF {α:Type} (e:α->Int) (_:Unit) (x:α):Unit ⊕ Int:=if e x=0 then .inl () else .inr (e x)
def xG {α:Type} (e:α->Int):List α->Int
 | []=>0
 | x :: l=>if e x≠0 then e x else xG e l
theorem uz {α:Type} (e:α->Int):∀ l:List α,iter (eF e) () l=if xG e l=0 then .inl () else .inr (xG e l)
 | []=>rfl
 | x :: l=>by
  simp only [iter,eF,xG]
  by_cases h:e x=0
  ·simp [h,uz e l]
  ·simp [h]
theorem Cb (n:Nat):∀ l:List Pt,pG n l=xG (fun a=>ptE a n) l
 | []=>rfl
 | a :: l=>by simp only [pG,xG,Cb n l]
def sqE (n:Nat) (a:Pt):Int:=if a.kind≠2 then 1 else ptE a n
theorem Cc (n:Nat):∀ l:List Pt,xH n l=xG (sqE n) l
 | []=>rfl
 | a :: l=>by
  simp only [xH,xG,sqE,Cc n l]
  by_cases h:a.kind≠2
  ·simp [h]
  ·simp [h]
def pcE (x:Pc):Int:=if tL x=true then 2 else 0
theorem ET:∀ l:List Pc,xG pcE l=if l.any tL=true then 2 else 0
 | []=>rfl
 | x :: l=>by
  simp only [xG,pcE,ET l,List.any_cons]
  by_cases h:tL x=true<;>simp [h]
structure SzP (p:Pl):Prop where
 gp:p.gp.l.length<=1000
 comm:p.comm.l.length<=1000
 atoms:p.atoms.l.length<=1000
 sq:p.sq.l.length<=1000
 gates:okG p.gates.l
/- DN that TY twice: the reference. -/
theorem AL (x:Pc):∀ l:List Pc,iter (fun (_:Unit) (y:Pc)=>if x=y then (.inr ():Unit ⊕ Unit) else .inl ()) () l=if x∈l then .inr () else .inl ()
 | []=>rfl
 | y :: l=>by
  simp only [iter]
  by_cases h:x=y
  ·simp [h]
  ·simp [h,AL x l]
end Go.Ab.Pn
/-
  The check of a plan: the program.
-/
namespace Go.Ab.Pn
open Go.Ab.Pol
set_option maxRecDepth 100000
set_option maxHeartbeats 4000000
theorem T1 (p:Pl) (nl:Bool) (L:List Pc) (hL:L.length<=4000) (h:aj) :
  match iter (eF pcE) () L with
  | .inl _=>∃ env,(mu K4).code (.ak 1 [1,39,40,41] lT) ⟨[(1,.ptr (h.length,0) 0),(39,lv nl (L.map Pc.av)),(40,iV (L.length:Int)),(41,iV 0)],[.box 36 false p.av] :: h⟩=some (.exit 0,⟨env,[.box 36 false p.av] :: h⟩)∧get env 1=.ptr (h.length,0) 0
  | .inr e=>∃ env Fr,(mu K4).code (.ak 1 [1,39,40,41] lT) ⟨[(1,.ptr (h.length,0) 0),(39,lv nl (L.map Pc.av)),(40,iV (L.length:Int)),(41,iV 0)],[.box 36 false p.av] :: h⟩=some (.ret,⟨env,Fr :: h⟩)∧get env 2=iV e:=by
 have key:=aF (K:=K4) (n:=1) (live:=[1,39,40,41]) (a:=lT) (eF pcE)
  (fun pre b=>⟨[(1,.ptr (h.length,0) 0),(39,lv nl (L.map Pc.av)),(40,iV (L.length:Int)),(41,iV (pre.length:Int))],[.box 36 false p.av] :: h⟩) (fun _ _=>True)
  (fun b o=>∃ env,o=some (.exit 0,⟨env,[.box 36 false p.av] :: h⟩)∧get env 1=.ptr (h.length,0) 0) (fun e o=>∃ env Fr,o=some (.ret,⟨env,Fr :: h⟩)∧get env 2=iV e) L
  (fun pre x r b hl _=>by
   obtain ⟨h1,h2,w1⟩:=aG hl (by omega)
   have hix:=fun (k:IntKind)=>lu (sz:=2) (nl:=nl) (l:=L.map Pc.av) (k:=k) (j:=(pre.length:Int)) (v:=x.av) (by omega) (by rw [Int.toNat_natCast,List.getElem?_map,h2];rfl) rfl
   rw [aq]
   generalize (mu K4).code (.ak 1 [1,39,40,41] lT)=F
   clear hl
   unfold eF pcE tL
   by_cases c1:x.use < 0
   ·simp [lT,KL4,aa,h1,hix,w1,c1]
   by_cases c2:3 < x.use
   ·have c2':4<=x.use:=by omega
    simp [lT,KL4,aa,h1,hix,w1,c1,c2,c2']
   have c2':¬ 4<=x.use:=by omega
   by_cases c3:x.attr < 2
   ·simp [lT,KL4,aa,h1,hix,w1,c1,c2,c2',c3]
   by_cases c4:17 < x.attr
   ·simp [lT,KL4,aa,h1,hix,w1,c1,c2,c2',c3,c4]
   ·simp [lT,KL4,aa,h1,hix,w1,c1,c2,c2',c3,c4])
  (fun b _=>by
   rw [aq]
   generalize (mu K4).code (.ak 1 [1,39,40,41] lT)=F
   simp [lT]) () trivial
 simp only [List.length_nil,Int.natCast_zero] at key
 generalize iter (eF pcE) () L=r at key ⊢
 cases r with
 | inl b=>exact key.2
 | inr b=>exact key
theorem T2 (p:Pl) (z:SzP p) (h:aj) :
  match iter (eF fun a=>ptE a p.comm.l.length) () p.atoms.l with
  | .inl _=>∃ env,(mu K4).code (.ak 1 [1,82,83,84] pX) ⟨[(1,.ptr (h.length,0) 0),(82,p.atoms.avS Pt.av),(83,iV (p.atoms.l.length:Int)),(84,iV 0)],[.box 36 false p.av] :: h⟩=some (.exit 2,⟨env,[.box 36 false p.av] :: h⟩)∧get env 1=.ptr (h.length,0) 0
  | .inr e=>∃ env Fr,(mu K4).code (.ak 1 [1,82,83,84] pX) ⟨[(1,.ptr (h.length,0) 0),(82,p.atoms.avS Pt.av),(83,iV (p.atoms.l.length:Int)),(84,iV 0)],[.box 36 false p.av] :: h⟩=some (.ret,⟨env,Fr :: h⟩)∧get env 2=iV e:=by
 have key:=aF (K:=K4) (n:=1) (live:=[1,82,83,84]) (a:=pX) (eF fun a=>ptE a p.comm.l.length)
  (fun pre b=>⟨[(1,.ptr (h.length,0) 0),(82,p.atoms.avS Pt.av),(83,iV (p.atoms.l.length:Int)),(84,iV (pre.length:Int))],[.box 36 false p.av] :: h⟩) (fun _ _=>True)
  (fun b o=>∃ env,o=some (.exit 2,⟨env,[.box 36 false p.av] :: h⟩)∧get env 1=.ptr (h.length,0) 0) (fun e o=>∃ env Fr,o=some (.ret,⟨env,Fr :: h⟩)∧get env 2=iV e) p.atoms.l
  (fun pre x r b hl _=>by
   obtain ⟨h1,h2,w1⟩:=aG hl (by have:=z.atoms;omega)
   have hix:=fun (k:IntKind)=>aI (av:=Pt.av) (sz:=5) (s:=p.atoms) (k:=k) (j:=(pre.length:Int)) (x:=x) (by omega) (by simpa using h2) rfl
   have k68:=fun h=>up4 (f68 x p.comm.l.length h)
   rw [aq]
   generalize (mu K4).code (.ak 1 [1,82,83,84] pX)=F
   clear hl
   unfold eF
   by_cases c1:ptE x p.comm.l.length=0
   ·rw [c1] at k68
    simp [pX,KL4,aa,h1,hix,w1,c1,k68]
   ·simp [pX,KL4,aa,h1,hix,w1,c1,k68])
  (fun b _=>by
   rw [aq]
   generalize (mu K4).code (.ak 1 [1,82,83,84] pX)=F
   simp [pX]) () trivial
 simp only [List.length_nil,Int.natCast_zero] at key
 generalize iter (eF fun a=>ptE a p.comm.l.length) () p.atoms.l=r at key ⊢
 cases r with
 | inl b=>exact key.2
 | inr b=>exact key
theorem T3 (p:Pl) (z:SzP p) (h:aj) :
  match iter (eF (sqE p.comm.l.length)) () p.sq.l with
  | .inl _=>∃ env,(mu K4).code (.ak 1 [1,98,99,100] oa) ⟨[(1,.ptr (h.length,0) 0),(98,p.sq.avS Pt.av),(99,iV (p.sq.l.length:Int)),(100,iV 0)],[.box 36 false p.av] :: h⟩=some (.exit 4,⟨env,[.box 36 false p.av] :: h⟩)
  | .inr e=>∃ env Fr,(mu K4).code (.ak 1 [1,98,99,100] oa) ⟨[(1,.ptr (h.length,0) 0),(98,p.sq.avS Pt.av),(99,iV (p.sq.l.length:Int)),(100,iV 0)],[.box 36 false p.av] :: h⟩=some (.ret,⟨env,Fr :: h⟩)∧get env 2=iV e:=by
 have key:=aF (K:=K4) (n:=1) (live:=[1,98,99,100]) (a:=oa) (eF (sqE p.comm.l.length))
  (fun pre b=>⟨[(1,.ptr (h.length,0) 0),(98,p.sq.avS Pt.av),(99,iV (p.sq.l.length:Int)),(100,iV (pre.length:Int))],[.box 36 false p.av] :: h⟩) (fun _ _=>True)
  (fun b o=>∃ env,o=some (.exit 4,⟨env,[.box 36 false p.av] :: h⟩)) (fun e o=>∃ env Fr,o=some (.ret,⟨env,Fr :: h⟩)∧get env 2=iV e) p.sq.l
  (fun pre x r b hl _=>by
   obtain ⟨h1,h2,w1⟩:=aG hl (by have:=z.sq;omega)
   have hix:=fun (k:IntKind)=>aI (av:=Pt.av) (sz:=5) (s:=p.sq) (k:=k) (j:=(pre.length:Int)) (x:=x) (by omega) (by simpa using h2) rfl
   have k68:=fun h=>up4 (f68 x p.comm.l.length h)
   rw [aq]
   generalize (mu K4).code (.ak 1 [1,98,99,100] oa)=F
   clear hl
   unfold eF sqE
   by_cases c0:x.kind=2
   ·have c0':(x.kind=2)=True:=by simp [c0]
    by_cases c1:ptE x p.comm.l.length=0
    ·rw [c1] at k68
     simp [oa,KL4,aa,h1,hix,w1,c0',c1,k68]
    ·simp [oa,KL4,aa,h1,hix,w1,c0',c1,k68]
   ·simp [oa,KL4,aa,h1,hix,w1,c0])
  (fun b _=>by
   rw [aq]
   generalize (mu K4).code (.ak 1 [1,98,99,100] oa)=F
   simp [oa]) () trivial
 simp only [List.length_nil,Int.natCast_zero] at key
 generalize iter (eF (sqE p.comm.l.length)) () p.sq.l=r at key ⊢
 cases r with
 | inl b=>exact key.2
 | inr b=>exact key
theorem f25 (p:Pl) (z:SzP p) (h:aj):(mu K4).fn 25 [p.av] h=some (.val (.int .i64 (ue p)) h):=by
 have k65:=fun h=>f65 p.gp p.comm z.gp z.comm h
 obtain ⟨NL,k65⟩:=Classical.axiomOfChoice k65
 have k66:=fun h=>up4 (T0 p.gp (by have:=z.gp;omega) h)
 have DP:=fun h=>up4 (T0 p.comm (by have:=z.comm;omega) h)
 have k67:=fun h=>up4 (f67 p.gates z.gates p.atoms.l.length h)
 have ka:=fun nl=>T1 p nl (p.gp.l++p.comm.l) (by have:=z.gp;have:=z.comm;simp;omega) h
 have kb:=T2 p z h
 have kc:=T3 p z h
 rw [uz,ET] at ka
 rw [uz,<-Cb] at kb
 rw [uz,<-Cc] at kc
 simp only [List.length_append,Int.natCast_add,List.map_append] at ka
 have pd:p.av=.agg [p.gp.avS Pc.av,p.comm.avS Pc.av,p.atoms.avS Pt.av,p.gates.avS Gt.av,p.sq.avS Pt.av]:=rfl
 rw [aC (KX4 _ _ _) (IV VR) rfl (by simp [c25])]
 unfold ue
 by_cases c1:64 < p.gp.l.length
 ·rw [if_pos (.inl c1)]
  have c1':(64:Int) < (p.gp.l.length:Int):=by omega
  simp [c25,KL4,aa,c1,c1']
 have c1':¬ (64:Int) < (p.gp.l.length:Int):=by omega
 by_cases c2:64 < p.comm.l.length
 ·rw [if_pos (.inr (.inl c2))]
  have c2':(64:Int) < (p.comm.l.length:Int):=by omega
  simp [c25,KL4,aa,c1,c1',c2,c2']
 have c2':¬ (64:Int) < (p.comm.l.length:Int):=by omega
 by_cases c3:64 < p.sq.l.length
 ·rw [if_pos (.inr (.inr (.inl c3)))]
  have c3':(64:Int) < (p.sq.l.length:Int):=by omega
  simp [c25,KL4,aa,c1,c1',c2,c2',c3,c3']
 have c3':¬ (64:Int) < (p.sq.l.length:Int):=by omega
 by_cases c4:256 < p.atoms.l.length
 ·rw [if_pos (.inr (.inr (.inr c4)))]
  have c4':(256:Int) < (p.atoms.l.length:Int):=by omega
  simp [c25,KL4,aa,c1,c1',c2,c2',c3,c3',c4,c4']
 have c4':¬ (256:Int) < (p.atoms.l.length:Int):=by omega
 rw [if_neg (by omega)]
 cases c5:(p.gp.l++p.comm.l).any tL with
 | true=>
  rw [if_pos rfl]
  simp only [c5,if_true] at ka
  rw [if_neg (by decide)] at ka
  obtain ⟨E,ka⟩:=Classical.axiomOfChoice ka
  obtain ⟨Fr,ka⟩:=Classical.axiomOfChoice ka
  have ka1:=fun nl=>(ka nl).1
  have ka2:=fun nl=>(ka nl).2
  simp [c25,KL4,aa,c1,c1',c2,c2',c3,c3',c4,c4',k65,ka1,ka2]
 | false=>
  simp only [c5,Bool.false_eq_true,if_false,if_true] at ka ⊢
  obtain ⟨E,ka⟩:=Classical.axiomOfChoice ka
  have ka1:=fun nl=>(ka nl).1
  have ka2:=fun nl=>(ka nl).2
  cases c6:twP p.gp.l with
  | true=>
   rw [c6] at k66
   simp [c25,KL4,aa,c1,c1',c2,c2',c3,c3',c4,c4',k65,ka1,ka2,k66]
  | false=>
   rw [c6] at k66
   cases c7:twP p.comm.l with
   | true=>
    rw [c7] at DP
    simp [c25,KL4,aa,c1,c1',c2,c2',c3,c3',c4,c4',k65,ka1,ka2,k66,DP]
   | false=>
    rw [c7] at DP
    rw [if_neg (by simp)]
    by_cases c8:fmE p.gates.l p.atoms.l.length=0
    case neg=>
     rw [if_pos c8]
     simp [c25,KL4,aa,c1,c1',c2,c2',c3,c3',c4,c4',k65,ka1,ka2,k66,DP,k67,c8]
    rw [c8] at k67
    rw [if_neg (by simp [c8])]
    by_cases c9:pG p.comm.l.length p.atoms.l=0
    case neg=>
     rw [if_neg c9] at kb
     obtain ⟨env,Fr,kb,g2⟩:=kb
     rw [if_pos c9]
     simp [c25,KL4,aa,c1,c1',c2,c2',c3,c3',c4,c4',k65,ka1,ka2,k66,DP,k67,kb,g2]
    rw [if_pos c9] at kb
    obtain ⟨env,kb,g1⟩:=kb
    rw [if_neg (by simp [c9])]
    by_cases c10:xH p.comm.l.length p.sq.l=0
    ·rw [if_pos c10] at kc
     obtain ⟨mz,kc⟩:=kc
     rw [c10]
     simp [c25,KL4,aa,c1,c1',c2,c2',c3,c3',c4,c4',k65,ka1,ka2,k66,DP,k67,kb,g1,kc]
    ·rw [if_neg c10] at kc
     obtain ⟨mz,Fr,kc,g2⟩:=kc
     simp [c25,KL4,aa,c1,c1',c2,c2',c3,c3',c4,c4',k65,ka1,ka2,k66,DP,k67,kb,g1,kc,g2]
end Go.Ab.Pn
/-
  The check of a plan: the reference.
-/
namespace Go.Ab.Pn
open Go.Ab.Pol
set_option maxRecDepth 100000
set_option maxHeartbeats 4000000
end Go.Ab.Pn
