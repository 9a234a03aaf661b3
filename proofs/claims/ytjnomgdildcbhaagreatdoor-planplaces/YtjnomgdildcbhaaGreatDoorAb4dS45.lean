/-
  The width of a range; what the proof of an atom needs; program and reference.
-/
import Derived.Test.YtjnomgdildcbhaaGreatDoorAb4dS4
import Derived.Test.YtjnomgdildcbhaaGreatDoorAb4dP35
import Derived.Test.YtjnomgdildcbhaaGreatDoorAb4dS8
import Derived.Test.YtjnomgdildcbhaaGreatDoorAb4dP92
import Derived.Test.YtjnomgdildcbhaaGreatDoorAb4dS12
set_option linter.unusedVariables false
set_option linter.unusedSimpArgs false
set_option linter.unusedSectionVars false
namespace Go.Ab.Pn
open Go.Ab.Pol
set_option maxRecDepth 100000
set_option maxHeartbeats 4000000
def i64 (n:Int):Prop:=-9223372036854775808<=n∧n<=9223372036854775807
structure aPt (x:Pt):Prop where
 kind:i64 x.kind
 a:i64 x.a
 b:i64 x.b
 lo:i64 x.lo
 hi:i64 x.hi
end Go.Ab.Pn
/-
  The form's reading of Gf, atoms and lists of numbers, as values of the mH.
-/
namespace Go.Ab.Pn
open Go.Ab.Pol
open Go.Proofs Go.ChangeMaps Go.ChangeShapes Go.WideShapes Go.RowKit
set_option maxRecDepth 100000
structure bPc (x:Pol.Pc):Prop where
 use:okI .i64 x.use
 attr:okI .i64 x.attr
structure bPt (x:Pol.Pt):Prop where
 kind:okI .i64 x.kind
 a:okI .i64 x.a
 b:okI .i64 x.b
 lo:okI .i64 x.lo
 hi:okI .i64 x.hi
structure bGt (x:Pol.Gt):Prop where
 need:okI .i64 x.need
 kids:oh (okI .i64) x.kids
 leaf:okI .i64 x.leaf
structure bPl (x:Pl):Prop where
 kg:oh bPc x.kg
 comm:oh bPc x.comm
 atoms:oh bPt x.atoms
 gJ:oh bGt x.gJ
 sq:oh bPt x.sq
section
variable {H:Type} {enc:TypeId×Value->H} {W:World} {base b:Nat} {sp:Nat->Bool} {hd:Bool} {v:Value} {d:DataW H} {ps:List MemPlace}
end
end Go.Ab.Pn
/-
  The statements of chapter 47 on the evaluator: atoms.
-/
namespace Go.Ab.Pn
open Go.Ab.Pol
set_option maxRecDepth 100000
set_option maxHeartbeats 4000000
end Go.Ab.Pn
/-
  The cost of a plan;Gf that are small;the statement on checks and costs.
-/
namespace Go.Ab.Pn
open Go.Ab.Pol
set_option maxRecDepth 100000
set_option maxHeartbeats 4000000
structure aPl (p:Pl):Prop where
 sz:SzP p
 pts:∀ x∈p.atoms.l,aPt x
theorem Dj {n:Nat}:∀ {l:List Pt},zG n l=0->∀ a∈l,ptE a n=0
 | [],_,a,h=>by cases h
 | b :: l,h,a,ha=>by
  simp only [zG] at h
  split at h
  ·rename_i c;exact absurd h c
  ·rename_i c
   rcases List.mem_cons.1 ha with rfl | ha
   ·exact Classical.not_not.1 c
   ·exact Dj h a ha
/- Small Gf. -/
theorem I8:∀ x:Pc,x.av.beq x.av=true:=fun x=>by simp [AV.beq,AV.dF]
theorem OY:∀ x:Pt,x.av.beq x.av=true:=fun x=>by simp [AV.beq,AV.dF,au _ bW]
end Go.Ab.Pn
/-
  The plan of a policy is valid: the statement PlanValid on the evaluator.
-/
namespace Go.Ab.Pn
open Go.Ab.Pol
set_option maxRecDepth 100000
set_option maxHeartbeats 4000000
theorem Fk {a:Pt} {n:Nat} (hn:n<=1000) (h:ptE a n=0):aPt a:=by
 unfold ptE at h
 split at h
 ·exact absurd h (by decide)
 rename_i c
 split at h
 ·rename_i ho
  unfold Cy at ho
  simp only [Bool.and_eq_true,decide_eq_true_eq] at ho
  obtain ⟨h1,h2⟩:=ho
  have key:0<=a.b∧a.b<=1000∧-cJ<=a.lo∧a.lo<=cJ∧-cJ<=a.hi∧a.hi<=cJ:=by
   unfold cJ at *
   split at h2
   ·simp only [decide_eq_true_eq] at h2;omega
   split at h2
   ·simp only [decide_eq_true_eq] at h2;omega
   split at h2
   ·simp only [decide_eq_true_eq] at h2;omega
   ·simp only [decide_eq_true_eq] at h2;omega
  unfold cJ at key
  refine ⟨?_,?_,?_,?_,?_⟩<;>unfold i64<;>omega
 ·exact absurd h (by decide)
theorem vS {p:Po} {l:List Sc} {t:Tr} (ok:Jm p l t) (hF:(aV p l t).isF≠true):(aZ p l t=([],[],none)∧(aV p l t).isT=true)∨(NF p.uses.l l (inR (bA p l t)) (cA (aV p l t))∧aZ p l t=eF (bA p l t) (ak p.uses.l l) (cA (aV p l t))):=by
 have lt:=kJ (aV p l t)
 by_cases c3:(aV p l t).isT=true
 ·refine .inl ⟨?_,c3⟩
  unfold aZ Aa
  rw [lt.1,if_pos c3]
 ·refine .inr ⟨?_,?_⟩
  ·rcases ok.nf with ⟨b,e⟩ | q
   ·exfalso
    rw [e] at lt
    cases b
    ·exact hF (by rw [<-lt.2];rfl)
    ·exact c3 (by rw [<-lt.1];rfl)
   ·exact q
  ·unfold aZ Aa
   rw [lt.1,if_neg c3]
theorem Ij {p:Po} {l:List Sc} {t:Tr} (g:Pol.Good p t) (ok:Jm p l t) (hty:(jd p l t).2=0) (hn:p.nodes.l.length<=40):(bA p l t).length<=40:=by
 have hn':NFp p.uses.l l (wG p t) (aV p l t):=qG g hty (Bo g.isT) false
 have h1:=mD (bA p l t) (bL p t) ok.nodup (J7 (q:=aX p l t) ok.good.isT hn')
 have h2:=wI p.nodes.l (ints t.pre)
 have h3:(ints t.pre).length=t.pre.length:=by simp [ints]
 have h4:=g.all
 have h5:bL p t=iz p.nodes.l (ints t.pre):=rfl
 rw [h5] at h1
 omega
theorem Hu {p:Po} {l:List Sc} {t:Tr} (ht:chk p=0->Pol.Good p t) (hn:p.nodes.l.length<=40) (h:(iq p l t).2=0) :
  Ja (iq p l t).1=0∧aPl (iq p l t).1∧Jm p l t∧(aV p l t).isF≠true∧Pol.Good p t∧M0 p l t ∧
   (iq p l t).1=⟨⟨false,p.aA.l.map (pcR p.uses.l l)⟩,⟨false,(bA p l t).map (pcR p.uses.l l)⟩,⟨false,(aZ p l t).1⟩,bE (aZ p l t).2.2,⟨false,(aZ p l t).2.1⟩⟩:=by
 unfold iq at h ⊢
 by_cases c1:(fN p l t).2=0
 case neg=>rw [if_pos c1] at h;exact absurd h c1
 rw [if_neg (by simp [c1])] at h ⊢
 by_cases c2:(aV p l t).isF=true
 ·rw [if_pos c2] at h;exact absurd h (by decide)
 rw [if_neg c2] at h ⊢
 by_cases c3:qF (aZ p l t).1 (aZ p l t).2.1=0
 case neg=>rw [if_pos c3] at h;exact absurd h c3
 rw [if_neg (by simp [c3])]
 have ok:=Fy ht c1
 obtain ⟨g,hF,hty,_,_⟩:=wF ht c1
 have hsz:(aV p l t).size<=380:=by
  have:=norm_le g l
  omega
 have hr:=Ij g ok hty hn
 have hfd:=sG ok.ready p.uses.l
 have parts:zG (bA p l t).length (aZ p l t).1=0∧zA (bA p l t).length (aZ p l t).2.1=0∧fmE (jU (aZ p l t).2.2) (aZ p l t).1.length=0:=by
  rcases vS ok c2 with ⟨e,_⟩ | ⟨hnf,e⟩
  ·rw [e]
   exact ⟨rfl,rfl,wY⟩
  ·rw [e] at c3 ⊢
   exact Ic hfd _ hnf (by rw [iQ];omega) c3
 obtain ⟨p1,p2,p3⟩:=parts
 have hc:=JT (na:=false) (nc:=false) (ns:=false) (nd:=false) ok.ready ok.aA ok.nodup (by omega) ok.found c3 p1 p2 p3
 have hlen:(aZ p l t).1.length<=256∧(aZ p l t).2.1.length<=64:=by
  unfold qF at c3
  split at c3
  ·exact absurd c3 (by decide)
  ·omega
 have hg:okG (bE (aZ p l t).2.2).l:=by
  rcases vS ok c2 with ⟨e,_⟩ | ⟨hnf,e⟩
  ·rw [e];exact ⟨by simp [bE],fun g hg=>by simp [bE] at hg⟩
  ·cases ef:(aZ p l t).2.2 with
   | none=>exact ⟨by simp [bE],fun g hg=>by simp [bE] at hg⟩
   | some f=>
    rw [ef] at p3
    have hfs:f.size<=512:=by
     unfold fmE at p3
     split at p3
     ·exact absurd p3 (by decide)
     ·simp only [jU,gy] at *;omega
    exact J8 hfs
 refine ⟨hc,⟨⟨by simp;have:=ok.Hv;omega,by simp;omega,by simp only;omega,by simp only;omega,hg⟩,fun a ha=>Fk (by omega) (Dj p1 a ha)⟩,ok,c2,g,hF,rfl⟩
theorem Ht {p:Po} {l:List Sc} {t:Tr} (h:(iq p l t).2≠0):(iq p l t).1=zPl:=by
 unfold iq at h ⊢
 split
 ·rfl
 rename_i c1
 rw [if_neg c1] at h
 split
 ·rfl
 rename_i c2
 rw [if_neg c2] at h
 split
 ·rfl
 rename_i c3
 rw [if_neg c3] at h
 exact absurd rfl h
end Go.Ab.Pn
/-
  Two Gf of the same lists are the same.
-/
namespace Go.Ab.Pn
open Go.Ab.Pol
set_option maxRecDepth 100000
set_option maxHeartbeats 4000000
structure XZ (a b:Pl):Prop where
 kg:a.kg.l=b.kg.l
 comm:a.comm.l=b.comm.l
 atoms:a.atoms.l=b.atoms.l
 gJ:a.gJ.l=b.gJ.l
 sq:a.sq.l=b.sq.l
end Go.Ab.Pn
