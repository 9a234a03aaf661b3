/-
  Equal of two policies that differ in nil slices at most.
-/
import Derived.Test.YtfpmflgjbpnkjaaAb41P37
set_option linter.unusedVariables false
set_option linter.unusedSimpArgs false
namespace Go.Ab.Pl
open Go.Ab.Pol
set_option maxRecDepth 100000
set_option maxHeartbeats 4000000
def eqN (x y:Nd):Prop:=x.k=y.k∧x.num=y.num∧x.nm=y.nm∧x.attr=y.attr∧x.kids.l=y.kids.l∧x.pos=y.pos
structure EqD (p q:Po):Prop where
 name:p.name=q.name
 scope:p.scope=q.scope
 escrow:p.escrow=q.escrow
 limit:p.limit=q.limit
 root:p.root=q.root
 uses:p.uses.l=q.uses.l
 reveal:p.reveal.l=q.reveal.l
 len:p.nodes.l.length=q.nodes.l.length
 nodes:∀ (i:Nat) (x y:Nd),p.nodes.l[i]?=some x→q.nodes.l[i]?=some y→eqN x y
theorem EqD.at {p q:Po} (e:EqD p q) {i:Nat} {x:Nd} (h:p.nodes.l[i]?=some x):∃ y,q.nodes.l[i]?=some y∧eqN x y:=by
 have hi:i < q.nodes.l.length:=by rw [←e.len];exact (List.getElem?_eq_some_iff.1 h).1
 exact ⟨_,List.getElem?_eq_getElem hi,e.nodes i x _ h (List.getElem?_eq_getElem hi)⟩
end Go.Ab.Pl
