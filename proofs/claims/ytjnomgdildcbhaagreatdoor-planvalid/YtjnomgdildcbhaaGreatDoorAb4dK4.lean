/-
  Which gates hold: program and reference.
-/
import Derived.Test.YtjnomgdildcbhaaGreatDoorAb4dS8
import Derived.Test.YtjnomgdildcbhaaGreatDoorAb4dS4
import Derived.Test.YtjnomgdildcbhaaGreatDoorAb4dS45
import Derived.Test.YtjnomgdildcbhaaGreatDoorAb4dP92
import Derived.Test.YtjnomgdildcbhaaGreatDoorChecked
import Derived.Test.YtjnomgdildcbhaaGreatDoorRows
import Derived.JoinedOf
import Derived.Handed
import Derived.KernelRfl
import Derived.LaidLaws
set_option linter.unusedVariables false
set_option linter.unusedSimpArgs false
set_option linter.unusedSectionVars false
namespace Go.Ab.Pn
open Go.Ab.Pol
set_option maxRecDepth 100000
set_option maxHeartbeats 4000000
end Go.Ab.Pn
/-
  The M7 of a formula: program and reference.
-/
namespace Go.Ab.Pn
open Go.Ab.Pol
set_option maxRecDepth 100000
set_option maxHeartbeats 4000000
end Go.Ab.Pn
/-
  HS out of range, Lo that do not hold: the S9.
-/
namespace Go.Ab.Pn
open Go.Ab.Pol
set_option maxRecDepth 100000
set_option maxHeartbeats 4000000
end Go.Ab.Pn
/-
  Vn a plan holds: program and reference.
-/
namespace Go.Ab.Pn
open Go.Ab.Pol
set_option maxRecDepth 100000
set_option maxHeartbeats 4000000
end Go.Ab.Pn
/-
  The statements of chapter 47 on the evaluator: Lp a plan holds.
-/
namespace Go.Ab.Pn
open Go.Ab.Pol
set_option maxRecDepth 100000
set_option maxHeartbeats 4000000
theorem N1 {p:Pl} (h:ue p=0):fmE p.gates.l p.atoms.l.length=0:=by
 by_cases e:fmE p.gates.l p.atoms.l.length=0
 ·exact e
 ·exfalso
  unfold ue at h
  repeat' (split at h)
  all_goals first | (exact absurd h (by decide)) | (exact absurd h e) | (rename_i q1 q2;exact absurd e (by simpa using q1)) | (rename_i q1;exact absurd e (by simpa using q1)) | skip
end Go.Ab.Pn
/-
  The statement PlanValid on the evaluator.
-/
namespace Go.Ab.Pn
open Go.Ab.Pol
set_option maxRecDepth 100000
set_option maxHeartbeats 4000000
theorem Lq (p:Pl):(p.atoms.l.length:Int)+p.sq.l.length<=BE p:=by
 have:=(xY p.atoms.l (2 * p.comm.l.length+48 * p.sq.l.length)).1
 unfold BE
 omega
theorem Wb (p:Po) (hp:aPo p) (l:Sl Sc) (hl:nU aSc l):(mu K5).fn 7 [p.av,l.avS Sc.av] []=some (.val (.bool true) []):=by
 have k10:=fun h=>DB (f10 p l h)
 have q1:=ay _ fH p.uses
 have q2:=ay _ fI p.aB
 have q3:=ay _ dZ p.nodes
 have q4:=ay _ fJ l
 have aw:=fun f=>up5 (Lr f)
 rw [aC (KX5 _ _ _) (Ta fn7) rfl (by simp [c7])]
 cases hf:BF p l.l
 ·rw [hf] at k10
  simp [c7,KL5,aa,k10,aw,q1,q2,q3]
 rw [hf] at k10
 obtain ⟨z,zl,h30⟩:=HT hp hl hf
 obtain ⟨t,ht⟩:=Gs p
 have k12:=fun h=>f12 p z l zl t ht (by omega) h
 by_cases h0:(jU p l.l t).2=0
 case neg=>
  rw [Gu h0] at k12
  have sz:=fun h=>DB (N2 h)
  rw [Av] at k12 sz
  simp [c7,KL5,aa,k10,k12,h0,aw,q1,q2,q3,sz]
 obtain ⟨hc,ha,ok,hF,g,hfit,he⟩:=Gv ht (by omega) h0
 generalize hP:(jU p l.l t).1=P at *
 rw [h0] at k12
 have k23:=fun h=>up5 (f23 P ha h)
 have k25:=fun h=>up5 (f25 P ha.sz h)
 have hcr:BG P=(BE P,0):=by unfold BG;rw [if_neg (by simp [hc])]
 rw [hcr] at k23
 rw [hc] at k25
 have k27:=fun h=>DB (f27 P.gates ha.sz.gates P.atoms.l.length h)
 rw [N1 hc] at k27
 have hge:=Lq P
 have w1:IntKind.i64.wrap ((P.atoms.l.length:Int)+(P.sq.l.length:Int))=(P.atoms.l.length:Int)+(P.sq.l.length:Int):=by
  have:=ha.sz.atoms
  have:=ha.sz.sq
  exact wrap64 (by omega) (by omega)
 have pd:P.av=.agg [P.gp.avS Pc.av,P.comm.avS Pc.av,P.atoms.avS Pt.av,P.gates.avS Gt.av,P.sq.avS Pt.av]:=rfl
 have b1:=ay _ HU P.gp
 have b2:=ay _ HU P.comm
 have b3:=ay _ HV P.atoms
 have b4:=ay _ DC P.gates
 have b5:=ay _ HV P.sq
 simp only [fAV] at k27
 simp [c7,KL5,aa,k10,k12,aw,q1,q2,q3,k23,k25,k27,w1,hge,b1,b2,b3,b4,b5]
end Go.Ab.Pn
/-
  A closed fact of the program: Lp a call may enter.
-/
namespace Go.Proofs.YtjnomgdildcbhaaGreatDoor
theorem Gw:Tryz.prog.mayEnter=true:=by kernel_rfl
end Go.Proofs.YtjnomgdildcbhaaGreatDoor
/-
  A closed fact of the program: what is lifted.
-/
namespace Go.Proofs.YtjnomgdildcbhaaGreatDoor
theorem N3:Tryz.prog.liftsFinal=Rows.planAtomsRow.lifted:=by kernel_rfl
end Go.Proofs.YtjnomgdildcbhaaGreatDoor
/-
  A closed fact of the program: how it was made.
-/
namespace Go.Proofs.YtjnomgdildcbhaaGreatDoor
theorem Tb:Tryz.prog.make=some Rows.planAtomsRow.make:=by kernel_rfl
end Go.Proofs.YtjnomgdildcbhaaGreatDoor
/-
  The world in which the listed tables lie as the rows say.
-/
namespace Go.Proofs.YtjnomgdildcbhaaGreatDoor
def Gx (d:DataW Unit):Array Value:=
 match d with
 | .agg l=>(l.map fun | .lit (.int k n)=>Value.int k n | _=>Value.int .i64 0).toArray
 | _=>#[]
noncomputable def nu (os:Os):World:=
 let w0:=World.holding Tryz.prog os ⟨#[],#[],[]⟩
 let put:=fun (h:Array Obj) (g:Nat) (d:DataW Unit)=>h.modify g fun
   | .cells _ t frozen=>.cells (Gx d) t frozen
   | o=>o
 { w0 with heap:=put (put (put w0.heap 1 Rows.laid_math_bits_deBruijn32tab) 2 Rows.laid_math_bits_deBruijn64tab) 0 Rows.laid_internal_strconv_uint64pow10 }
set_option maxRecDepth 100000 in
theorem HW (os:Os) (args:Array Value):laidMet Tryz.prog Rows.planAtomsRow.laid ((nu os).forCall (fun _ _=>0) ⟨#[],args,[]⟩).memory:=
 laidMet_of_run' 8 (by kernel_rfl) (by kernel_rfl)
set_option maxRecDepth 100000 in
theorem Gy (os:Os) (args:Array Value):((nu os).forCall (fun _ _=>0) ⟨#[],args,[]⟩).variablesB Tryz.prog=true:=by kernel_rfl
set_option maxRecDepth 100000 in
theorem Gz (os : Os) (args : Array Value) : ((((nu os).forCall (fun _ _ => 0) ⟨#[], args, []⟩).heap.toList.drop Tryz.prog.globals.size).take ((begin Tryz.prog (fun _ _ => 0) default).world.heap.size - Tryz.prog.globals.size) =
      (begin Tryz.prog (fun _ _=>0) default).world.heap.toList.drop Tryz.prog.globals.size):=by kernel_rfl
end Go.Proofs.YtjnomgdildcbhaaGreatDoor
