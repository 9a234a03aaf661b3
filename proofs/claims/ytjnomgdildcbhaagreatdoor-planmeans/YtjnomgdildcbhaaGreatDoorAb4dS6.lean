/-
  The check of a plan: the program.
-/
import Derived.Test.YtjnomgdildcbhaaGreatDoorAb4dS10
import Derived.Test.YtjnomgdildcbhaaGreatDoorAbOrd
import Derived.Test.YtjnomgdildcbhaaGreatDoorAb4dA
import Derived.Test.YtjnomgdildcbhaaGreatDoorAb4dS1
import Derived.Test.YtjnomgdildcbhaaGreatDoorAb4dP92
set_option linter.unusedVariables false
set_option linter.unusedSimpArgs false
set_option linter.unusedSectionVars false
namespace Go.Ab.Pn
open Go.Ab.Pol
set_option maxRecDepth 100000
set_option maxHeartbeats 4000000
theorem aaO(p:Pl)(nl:Bool)(L:List Pc)(hL:L.length<=4000)(h:Heap) :
  match iter (eF pcE) () L with
  |.inl _=>∃ env,(mu K4).code (.af 1 [1,39,40,41] ow) ⟨[(1,.ptr (h.length,0) 0),(39,lv nl (L.map Pc.av)),(40,iV (L.length:Int)),(41,iV 0)],[.box 36 false p.av] :: h⟩=some (.exit 0,⟨env,[.box 36 false p.av] :: h⟩)∧get env 1=.ptr (h.length,0) 0
  |.inr e=>∃ env Fr,(mu K4).code (.af 1 [1,39,40,41] ow) ⟨[(1,.ptr (h.length,0) 0),(39,lv nl (L.map Pc.av)),(40,iV (L.length:Int)),(41,iV 0)],[.box 36 false p.av] :: h⟩=some (.ret,⟨env,Fr :: h⟩)∧get env 2=iV e:=by
 have key:=aD (K:=K4) (n:=1) (live:=[1,39,40,41]) (a:=ow) (eF pcE)
  (λpre b=>⟨[(1,.ptr (h.length,0) 0),(39,lv nl (L.map Pc.av)),(40,iV (L.length:Int)),(41,iV (pre.length:Int))],[.box 36 false p.av] :: h⟩) (λ_ _=>True)
  (λb o=>∃ env,o=some (.exit 0,⟨env,[.box 36 false p.av] :: h⟩)∧get env 1=.ptr (h.length,0) 0) (λe o=>∃ env Fr,o=some (.ret,⟨env,Fr :: h⟩)∧get env 2=iV e) L
  (λpre x r b hl _=>by
   obtain⟨h1,h2,w1⟩:=aH hl (by omega);have hix:=λ(k:IntKind)=>nB (sz:=2) (nl:=nl) (l:=L.map Pc.av) (k:=k) (j:=(pre.length:Int)) (v:=x.av) (by omega) (by rw[aev,aeh,h2];rfl) rfl
   rw[au];generalize (mu K4).code (.af 1 [1,39,40,41] ow)=F;clear hl;unfold eF pcE xB;by_cases c1:x.use<0
   ·simp[ow,KL4,aa,h1,hix,w1,c1]
   by_cases c2:3<x.use
   ·have c2':4<=x.use:=by omega
    simp[ow,KL4,aa,h1,hix,w1,c1,c2,c2']
   have c2':¬ 4<=x.use:=by omega
   by_cases c3:x.attr<2
   ·simp[ow,KL4,aa,h1,hix,w1,c1,c2,c2',c3]
   by_cases c4:17<x.attr
   ·simp[ow,KL4,aa,h1,hix,w1,c1,c2,c2',c3,c4]
   ·simp[ow,KL4,aa,h1,hix,w1,c1,c2,c2',c3,c4])
  (λb _=>by
   rw[au];generalize (mu K4).code (.af 1 [1,39,40,41] ow)=F;simp[ow]) () trivial
 simp only[adZ,ad5]at key;generalize iter (eF pcE) () L=r at key ⊢;cases r with
 |inl b=>exact key.2
 |inr b=>exact key
theorem aaP(p:Pl)(z:SzP p)(h:Heap) :
  match iter (eF λa=>ptE a p.comm.l.length) () p.atoms.l with
  |.inl _=>∃ env,(mu K4).code (.af 1 [1,82,83,84] tU) ⟨[(1,.ptr (h.length,0) 0),(82,p.atoms.avS Pt.av),(83,iV (p.atoms.l.length:Int)),(84,iV 0)],[.box 36 false p.av] :: h⟩=some (.exit 2,⟨env,[.box 36 false p.av] :: h⟩)∧get env 1=.ptr (h.length,0) 0
  |.inr e=>∃ env Fr,(mu K4).code (.af 1 [1,82,83,84] tU) ⟨[(1,.ptr (h.length,0) 0),(82,p.atoms.avS Pt.av),(83,iV (p.atoms.l.length:Int)),(84,iV 0)],[.box 36 false p.av] :: h⟩=some (.ret,⟨env,Fr :: h⟩)∧get env 2=iV e:=by
 have key:=aD (K:=K4) (n:=1) (live:=[1,82,83,84]) (a:=tU) (eF λa=>ptE a p.comm.l.length)
  (λpre b=>⟨[(1,.ptr (h.length,0) 0),(82,p.atoms.avS Pt.av),(83,iV (p.atoms.l.length:Int)),(84,iV (pre.length:Int))],[.box 36 false p.av] :: h⟩) (λ_ _=>True)
  (λb o=>∃ env,o=some (.exit 2,⟨env,[.box 36 false p.av] :: h⟩)∧get env 1=.ptr (h.length,0) 0) (λe o=>∃ env Fr,o=some (.ret,⟨env,Fr :: h⟩)∧get env 2=iV e) p.atoms.l
  (λpre x r b hl _=>by
   obtain⟨h1,h2,w1⟩:=aH hl (by have:=z.atoms;omega);have hix:=λ(k:IntKind)=>aG (av:=Pt.av) (sz:=5) (s:=p.atoms) (k:=k) (j:=(pre.length:Int)) (x:=x) (by omega) (by simpa using h2) rfl
   have k68:=λh=>up4 (f68 x p.comm.l.length h)
   rw[au];generalize (mu K4).code (.af 1 [1,82,83,84] tU)=F;clear hl;unfold eF;by_cases c1:ptE x p.comm.l.length=0
   ·rw[c1]at k68;simp[tU,KL4,aa,h1,hix,w1,c1,k68]
   ·simp[tU,KL4,aa,h1,hix,w1,c1,k68])
  (λb _=>by
   rw[au];generalize (mu K4).code (.af 1 [1,82,83,84] tU)=F;simp[tU]) () trivial
 simp only[adZ,ad5]at key;generalize iter (eF λa=>ptE a p.comm.l.length) () p.atoms.l=r at key ⊢;cases r with
 |inl b=>exact key.2
 |inr b=>exact key
theorem aaQ(p:Pl)(z:SzP p)(h:Heap) :
  match iter (eF (sqE p.comm.l.length)) () p.sq.l with
  |.inl _=>∃ env,(mu K4).code (.af 1 [1,98,99,100] rJ) ⟨[(1,.ptr (h.length,0) 0),(98,p.sq.avS Pt.av),(99,iV (p.sq.l.length:Int)),(100,iV 0)],[.box 36 false p.av] :: h⟩=some (.exit 4,⟨env,[.box 36 false p.av] :: h⟩)
  |.inr e=>∃ env Fr,(mu K4).code (.af 1 [1,98,99,100] rJ) ⟨[(1,.ptr (h.length,0) 0),(98,p.sq.avS Pt.av),(99,iV (p.sq.l.length:Int)),(100,iV 0)],[.box 36 false p.av] :: h⟩=some (.ret,⟨env,Fr :: h⟩)∧get env 2=iV e:=by
 have key:=aD (K:=K4) (n:=1) (live:=[1,98,99,100]) (a:=rJ) (eF (sqE p.comm.l.length))
  (λpre b=>⟨[(1,.ptr (h.length,0) 0),(98,p.sq.avS Pt.av),(99,iV (p.sq.l.length:Int)),(100,iV (pre.length:Int))],[.box 36 false p.av] :: h⟩) (λ_ _=>True)
  (λb o=>∃ env,o=some (.exit 4,⟨env,[.box 36 false p.av] :: h⟩)) (λe o=>∃ env Fr,o=some (.ret,⟨env,Fr :: h⟩)∧get env 2=iV e) p.sq.l
  (λpre x r b hl _=>by
   obtain⟨h1,h2,w1⟩:=aH hl (by have:=z.sq;omega);have hix:=λ(k:IntKind)=>aG (av:=Pt.av) (sz:=5) (s:=p.sq) (k:=k) (j:=(pre.length:Int)) (x:=x) (by omega) (by simpa using h2) rfl
   have k68:=λh=>up4 (f68 x p.comm.l.length h)
   rw[au];generalize (mu K4).code (.af 1 [1,98,99,100] rJ)=F;clear hl;unfold eF sqE;by_cases c0:x.kind=2
   ·have c0':(x.kind=2)=True:=by simp[c0]
    by_cases c1:ptE x p.comm.l.length=0
    ·rw[c1]at k68;simp[rJ,KL4,aa,h1,hix,w1,c0',c1,k68]
    ·simp[rJ,KL4,aa,h1,hix,w1,c0',c1,k68]
   ·simp[rJ,KL4,aa,h1,hix,w1,c0])
  (λb _=>by
   rw[au];generalize (mu K4).code (.af 1 [1,98,99,100] rJ)=F;simp[rJ]) () trivial
 simp only[adZ,ad5]at key;generalize iter (eF (sqE p.comm.l.length)) () p.sq.l=r at key ⊢;cases r with
 |inl b=>exact key.2
 |inr b=>exact key
theorem f25(p:Pl)(z:SzP p)(h:Heap):(mu K4).fn 25 [p.av] h=some (.val (.int .i64 (Ah p)) h):=by
 have k65:=λh=>f65 p.iN p.comm z.iN z.comm h
 obtain⟨NL,k65⟩:=afv k65;have k66:=λh=>up4 (aaD p.iN (by have:=z.iN;omega) h)
 have Im:=λh=>up4 (aaD p.comm (by have:=z.comm;omega) h)
 have k67:=λh=>up4 (f67 p.gates z.gates p.atoms.l.length h)
 have ka:=λnl=>aaO p nl (p.iN.l++p.comm.l) (by have:=z.iN;have:=z.comm;simp;omega) h
 have kb:=aaP p z h;have kc:=aaQ p z h;rw[zz,JN]at ka;rw[zz,<-FZ]at kb;rw[zz,<-F3]at kc;simp only[ad9,aft,aey]at ka;have pd:p.av=.agg [p.iN.avS Pc.av,p.comm.avS Pc.av,p.atoms.avS Pt.av,p.gates.avS Gt.av,p.sq.avS Pt.av]:=rfl;rw[aB (KX4 _ _ _) (Nj acr) rfl (by simp[c25])];unfold Ah;by_cases c1:64<p.iN.l.length
 ·rw[if_pos (.inl c1)];have c1':(64:Int)<(p.iN.l.length:Int):=by omega
  simp[c25,KL4,aa,c1,c1']
 have c1':¬ (64:Int)<(p.iN.l.length:Int):=by omega
 by_cases c2:64<p.comm.l.length
 ·rw[if_pos (.inr (.inl c2))];have c2':(64:Int)<(p.comm.l.length:Int):=by omega
  simp[c25,KL4,aa,c1,c1',c2,c2']
 have c2':¬ (64:Int)<(p.comm.l.length:Int):=by omega
 by_cases c3:64<p.sq.l.length
 ·rw[if_pos (.inr (.inr (.inl c3)))];have c3':(64:Int)<(p.sq.l.length:Int):=by omega
  simp[c25,KL4,aa,c1,c1',c2,c2',c3,c3']
 have c3':¬ (64:Int)<(p.sq.l.length:Int):=by omega
 by_cases c4:256<p.atoms.l.length
 ·rw[if_pos (.inr (.inr (.inr c4)))];have c4':(256:Int)<(p.atoms.l.length:Int):=by omega
  simp[c25,KL4,aa,c1,c1',c2,c2',c3,c3',c4,c4']
 have c4':¬ (256:Int)<(p.atoms.l.length:Int):=by omega
 rw[if_neg (by omega)];cases c5:(p.iN.l++p.comm.l).any xB with
 |true=>
  rw[if_pos rfl];simp only[c5,if_true]at ka;rw[if_neg (by decide)]at ka;obtain⟨E,ka⟩:=afv ka;obtain⟨Fr,ka⟩:=afv ka;have ka1:=λnl=>(ka nl).1
  have ka2:=λnl=>(ka nl).2
  simp[c25,KL4,aa,c1,c1',c2,c2',c3,c3',c4,c4',k65,ka1,ka2]
 |false=>
  simp only[c5,aef,if_false,if_true]at ka ⊢;obtain⟨E,ka⟩:=afv ka;have ka1:=λnl=>(ka nl).1
  have ka2:=λnl=>(ka nl).2
  cases c6:twP p.iN.l with
  |true=>
   rw[c6]at k66;simp[c25,KL4,aa,c1,c1',c2,c2',c3,c3',c4,c4',k65,ka1,ka2,k66]
  |false=>
   rw[c6]at k66;cases c7:twP p.comm.l with
   |true=>
    rw[c7]at Im;simp[c25,KL4,aa,c1,c1',c2,c2',c3,c3',c4,c4',k65,ka1,ka2,k66,Im]
   |false=>
    rw[c7]at Im;rw[if_neg (by simp)];by_cases c8:fmE p.gates.l p.atoms.l.length=0
    case neg=>
     rw[if_pos c8];simp[c25,KL4,aa,c1,c1',c2,c2',c3,c3',c4,c4',k65,ka1,ka2,k66,Im,k67,c8]
    rw[c8]at k67;rw[if_neg (by simp[c8])];by_cases c9:vX p.comm.l.length p.atoms.l=0
    case neg=>
     rw[if_neg c9]at kb;obtain⟨env,Fr,kb,g2⟩:=kb;rw[if_pos c9];simp[c25,KL4,aa,c1,c1',c2,c2',c3,c3',c4,c4',k65,ka1,ka2,k66,Im,k67,kb,g2]
    rw[if_pos c9]at kb;obtain⟨env,kb,g1⟩:=kb;rw[if_neg (by simp[c9])];by_cases c10:Cg p.comm.l.length p.sq.l=0
    ·rw[if_pos c10]at kc;obtain⟨nO,kc⟩:=kc;rw[c10];simp[c25,KL4,aa,c1,c1',c2,c2',c3,c3',c4,c4',k65,ka1,ka2,k66,Im,k67,kb,g1,kc]
    ·rw[if_neg c10]at kc;obtain⟨nO,Fr,kc,g2⟩:=kc;simp[c25,KL4,aa,c1,c1',c2,c2',c3,c3',c4,c4',k65,ka1,ka2,k66,Im,k67,kb,g1,kc,g2]
end Go.Ab.Pn
/-
  The check of a plan: the reference.
-/
namespace Go.Ab.Pn
open Go.Ab.Pol
set_option maxRecDepth 100000
set_option maxHeartbeats 4000000
end Go.Ab.Pn
/-
  The width of a range;what the proof of an atom needs;program and reference.
-/
namespace Go.Ab.Pn
open Go.Ab.Pol
set_option maxRecDepth 100000
set_option maxHeartbeats 4000000
def i64(n:Int):Prop:=-9223372036854775808<=n∧n<=9223372036854775807
structure aPt (x:Pt):Prop where
 kind:i64 x.kind
 a:i64 x.a
 b:i64 x.b
 lo:i64 x.lo
 hi:i64 x.hi
end Go.Ab.Pn
/-
  The form's reading of plans, atoms and lists of numbers, as values of the oP.
-/
namespace Go.Ab.Pn
open Go.Ab.Pol
open Go.Proofs Go.ChangeMaps Go.ChangeShapes Go.WideShapes Go.RowKit
set_option maxRecDepth 100000
structure bPc (x:Pol.Pc):Prop where
 use:okI .i64 x.use
 attr:okI .i64 x.attr
structure bPt (x:Pol.Pt):Prop where
 kind:okI .i64 x.kind
 a:okI .i64 x.a
 b:okI .i64 x.b
 lo:okI .i64 x.lo
 hi:okI .i64 x.hi
structure bGt (x:Pol.Gt):Prop where
 need:okI .i64 x.need
 kids:oH (okI .i64) x.kids
 leaf:okI .i64 x.leaf
structure bPl (x:Pl):Prop where
 iN:oH bPc x.iN
 comm:oH bPc x.comm
 atoms:oH bPt x.atoms
 gates:oH bGt x.gates
 sq:oH bPt x.sq
section
variable{H:Type}{enc:TypeId×Value->H}{W:World}{base b:Nat}{sp:Nat->Bool}{hd:Bool}{v:Value}{d:DataW H}{ps:List MemPlace}
end
end Go.Ab.Pn
/-
  The statements of chapter 47 on the evaluator: atoms.
-/
namespace Go.Ab.Pn
open Go.Ab.Pol
set_option maxRecDepth 100000
set_option maxHeartbeats 4000000
end Go.Ab.Pn
