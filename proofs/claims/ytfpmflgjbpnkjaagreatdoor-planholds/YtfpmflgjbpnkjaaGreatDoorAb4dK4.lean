/-
  A closed fact of the program: whether a call may enter.
-/
import Derived.Test.YtfpmflgjbpnkjaaGreatDoorChecked
import Derived.Test.YtfpmflgjbpnkjaaGreatDoorRows
import Derived.JoinedOf
import Derived.Handed
import Derived.KernelRfl
import Derived.LaidLaws
namespace Go.Proofs.YtfpmflgjbpnkjaaGreatDoor
theorem mayEnterF:Tryz.prog.mayEnter=true:=by kernel_rfl
end Go.Proofs.YtfpmflgjbpnkjaaGreatDoor
/-
  A closed fact of the program: what is lifted.
-/
namespace Go.Proofs.YtfpmflgjbpnkjaaGreatDoor
theorem liftsF:Tryz.prog.liftsFinal=Rows.planAtomsRow.lifted:=by kernel_rfl
end Go.Proofs.YtfpmflgjbpnkjaaGreatDoor
/-
  A closed fact of the program: how it was made.
-/
namespace Go.Proofs.YtfpmflgjbpnkjaaGreatDoor
theorem makeF:Tryz.prog.make=some Rows.planAtomsRow.make:=by kernel_rfl
end Go.Proofs.YtfpmflgjbpnkjaaGreatDoor
/-
  The world in which the listed tables lie as the rows say.
-/
namespace Go.Proofs.YtfpmflgjbpnkjaaGreatDoor
def laidCells (d:DataW Unit):Array Value:=
 match d with
 | .agg l=>(l.map fun | .lit (.int k n)=>Value.int k n | _=>Value.int .i64 0).toArray
 | _=>#[]
noncomputable def laidWorld (os:Os):World:=
 let w0:=World.holding Tryz.prog os ⟨#[],#[],[]⟩
 let put:=fun (h:Array Obj) (g:Nat) (d:DataW Unit)=>h.modify g fun
   | .cells _ t frozen=>.cells (laidCells d) t frozen
   | o=>o
 { w0 with heap:=put (put (put w0.heap 1 Rows.laid_math_bits_deBruijn32tab) 2 Rows.laid_math_bits_deBruijn64tab) 0 Rows.laid_internal_strconv_uint64pow10 }
set_option maxRecDepth 100000 in
theorem laid_met (os:Os) (args:Array Value):laidMet Tryz.prog Rows.planAtomsRow.laid ((laidWorld os).forCall (fun _ _=>0) ⟨#[],args,[]⟩).memory:=
 laidMet_of_run' 8 (by kernel_rfl) (by kernel_rfl)
set_option maxRecDepth 100000 in
theorem laid_vars (os:Os) (args:Array Value):((laidWorld os).forCall (fun _ _=>0) ⟨#[],args,[]⟩).variablesB Tryz.prog=true:=by kernel_rfl
set_option maxRecDepth 100000 in
theorem laid_rest (os : Os) (args : Array Value) : ((((laidWorld os).forCall (fun _ _ => 0) ⟨#[], args, []⟩).heap.toList.drop Tryz.prog.globals.size).take ((begin Tryz.prog (fun _ _ => 0) default).world.heap.size - Tryz.prog.globals.size) =
      (begin Tryz.prog (fun _ _=>0) default).world.heap.toList.drop Tryz.prog.globals.size):=by kernel_rfl
end Go.Proofs.YtfpmflgjbpnkjaaGreatDoor
