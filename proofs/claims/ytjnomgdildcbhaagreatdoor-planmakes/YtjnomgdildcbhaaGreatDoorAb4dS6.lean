/-
  Places: lists put one behind the other, places that occur twice.
-/
import Derived.Test.YtjnomgdildcbhaaGreatDoorAb4dT2
import Derived.Test.YtjnomgdildcbhaaGreatDoorAb4dS2
import Derived.Test.YtjnomgdildcbhaaGreatDoorAbFlat
import Derived.Test.YtjnomgdildcbhaaGreatDoorAb4dS43
import Derived.Test.YtjnomgdildcbhaaGreatDoorAbPlan
import Derived.Test.YtjnomgdildcbhaaGreatDoorAb4dS40
set_option linter.all false
set_option maxRecDepth 100000
set_option maxHeartbeats 4000000
namespace Go.Ab.Pn
open Go.Ab.Pol
structure SzP (p:Pl):Prop where
 vU:p.vU.l.length<=1000
 comm:p.comm.l.length<=1000
 atoms:p.atoms.l.length<=1000
 sq:p.sq.l.length<=1000
 gates:okG p.gates.l
theorem Gb(x:Pc):∀l:List Pc,iter (λ(_:Unit) (y:Pc)=>if x=y then (.inr ():Unit ⊕ Unit) else .inl ()) () l=if x∈l then .inr () else .inl ()
 | []=>rfl
 |y::l=>by
  simp only[iter];by_cases h:x=y
  ·simp[h]
  ·simp[h,Gb x l]
def i64(n:Int):Prop:=-9223372036854775808<=n∧n<=9223372036854775807
structure aPt (x:Pt):Prop where
 kind:i64 x.kind
 a:i64 x.a
 b:i64 x.b
 lo:i64 x.lo
 hi:i64 x.hi
open Go.Proofs Go.ChangeMaps Go.ChangeShapes Go.WideShapes Go.RowKit
structure bPc (x:Pol.Pc):Prop where
 use:okI .i64 x.use
 attr:okI .i64 x.attr
structure bPt (x:Pol.Pt):Prop where
 kind:okI .i64 x.kind
 a:okI .i64 x.a
 b:okI .i64 x.b
 lo:okI .i64 x.lo
 hi:okI .i64 x.hi
structure bGt (x:Pol.Gt):Prop where
 need:okI .i64 x.need
 kids:tC (okI .i64) x.kids
 leaf:okI .i64 x.leaf
structure bPl (x:Pl):Prop where
 vU:tC bPc x.vU
 comm:tC bPc x.comm
 atoms:tC bPt x.atoms
 gates:tC bGt x.gates
 sq:tC bPt x.sq
section
variable{H:Type}{enc:TypeId×Value->H}{W:World}{base b:Nat}{sp:Nat->Bool}{hd:Bool}{v:Value}{d:DataW H}{ps:List MemPlace}
end
