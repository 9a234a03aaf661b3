/-
  Presentations are the same exactly if their encodings are.
-/
import Derived.Test.YtmedbcjomklohaaAb5tS4
import Derived.Test.YtmedbcjomklohaaAb5tT1
set_option linter.unusedVariables false
set_option linter.unusedSimpArgs false
set_option linter.unusedSectionVars false
namespace Go.Ab.WireT
set_option maxRecDepth 100000
set_option maxHeartbeats 1000000
theorem eqL_iff {α:Type} {e:α→α→Bool} {z:α→α} (H:∀ x y,e x y=true↔z x=z y):∀ l m:List α,eqL e l m=true↔l.map z=m.map z
 | [],[]=>by simp [eqL]
 | [],_ :: _=>by simp [eqL]
 | _ :: _,[]=>by simp [eqL]
 | x :: l,y :: m=>by simp [eqL,H x y,eqL_iff H l m]
theorem iffB (x y:List UInt8):eqB x y=true↔id x=id y:=by simp [eqB]
theorem iffI (x y:Ig):eqI x y=true↔id x=id y:=by
 obtain ⟨a,b⟩:=x
 obtain ⟨c,d⟩:=y
 simp [eqI]
theorem iffL {α:Type} {e:α→α→Bool} {z:α→α} (H:∀ x y,e x y=true↔z x=z y) (a b:Sl α):eqL e a.l b.l=true↔a.z z=b.z z:=by
 rw [eqL_iff H]
 simp [Sl.z]
theorem iffPf (a b:Pf):eqPf a b=true↔a.z=b.z:=by
 have k1:=iffL iffI a.rs b.rs
 have k2:=iffL iffB a.gs b.gs
 have k3:=iffL (fun x y=>iffL iffI x y) a.ls b.ls
 simp only [eqPf,Bool.and_eq_true,Pf.z,Pf.mk.injEq]
 rw [k1,k2,k3,iffB]
 simp
theorem iffSh (a b:Sh):eqSh a b=true↔a.z=b.z:=by
 have k2:=iffL iffB a.ds b.ds
 simp only [eqSh,Bool.and_eq_true,Sh.z,Sh.mk.injEq]
 rw [k2,iffB,iffB,iffB]
 simp
theorem iffPr (a b:Pr):eqPr a b=true↔a.z=b.z:=by
 have k0:=iffL iffSh a.sh b.sh
 have k1:=iffL iffB a.cm b.cm
 have k2:=iffL (fun x y=>iffL iffB x y) a.pa b.pa
 have k3:=iffL (fun x y=>iffL iffB x y) a.sq b.sq
 have k4:=iffL iffB a.cp b.cp
 have k5:=iffPf a.p b.p
 simp only [eqPf,Bool.and_eq_true] at k5
 simp only [eqPr,Bool.and_eq_true,Pr.z,Pr.mk.injEq]
 rw [k0,k1,k2,k3,k4,k5,iffB,iffB,iffB,iffB,iffB]
 have:(a.es=b.es)↔(a.es.a=b.es.a∧a.es.b=b.es.b):=by
  cases ha:a.es
  cases hb:b.es
  simp
 rw [this]
 simp
theorem rPf_z (x:Pf):rPf x.z=rPf x:=by
 have e:rIss (x.ls.z (Sl.z id))=rIss x.ls:=by
  simp only [rIss,rL,Sl.z,List.map_map]
  congr 1
  apply List.map_congr_left
  intro y _
  simp [rIs,rL]
 simp only [rPf,Pf.z] at e ⊢
 rw [e]
 simp [rIs,rNs,rL]
theorem rPr_z (x:Pr):rPr x.z=rPr x:=by
 have e1:rNss (x.pa.z (Sl.z id))=rNss x.pa:=by simp [rNss,rL,Sl.z]
 have e2:rNss (x.sq.z (Sl.z id))=rNss x.sq:=by simp [rNss,rL,Sl.z]
 have e3:rShs (x.sh.z Sh.z)=rShs x.sh:=by simp [rShs,rL,Sl.z,Sh.z]
 simp only [rPr,Pr.z,rPf_z,e1,e2,e3]
 simp [rNs,rL]
theorem bPf_z (x:Pf):bPf x.z=bPf x:=by simp [bPf,Pf.z,bIs,bNs,bIss,Sl.z,List.any_map,Function.comp_def]
theorem bPr_z (x:Pr):bPr x.z=bPr x:=by
 have e:=bPf_z x.p
 simp only [bPr,Pr.z,e]
 simp [bNs,bNss,Sl.z,List.any_map,Function.comp_def,bSh,Sh.z]
theorem oPr_z (x:Pr):oPr x.z=oPr x:=by simp [oPr,Pr.z,Sl.z,List.any_map,Function.comp_def,Sh.z]
theorem pPr_z (x:Pr):pPr x.z=pPr x:=by
 unfold pPr
 rw [rPr_z,bPr_z,oPr_z]
theorem same_iff (x y:Pr) (hx:(pPr x).2=0) (hy:(pPr y).2=0):(pPr x).1=(pPr y).1↔eqPr x y=true:=by
 rw [iffPr]
 constructor
 ·intro h
  have k1:=got_Pr x hx
  have k2:=got_Pr y hy
  rw [h,k2] at k1
  exact (congrArg Prod.fst k1).symm
 ·intro h
  rw [←pPr_z x,←pPr_z y,h]
end Go.Ab.WireT
