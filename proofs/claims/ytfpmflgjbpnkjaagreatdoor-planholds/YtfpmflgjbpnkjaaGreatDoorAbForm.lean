/-
  Threshold formulas as trees: their gates, which of them hold, what joins them.
-/
import Derived.Test.YtfpmflgjbpnkjaaGreatDoorAbPlan
set_option linter.unusedVariables false
set_option linter.unusedSimpArgs false
namespace Go.Ab.Pol
inductive Fm where
 | leaf
 | gate (need:Int) (ks:List Fm)
 deriving Inhabited
mutual
def Fm.size:Fm→Nat
 | .leaf=>1
 | .gate _ ks=>1+Fm.sizes ks
def Fm.sizes:List Fm→Nat
 | []=>0
 | f :: fs=>f.size+Fm.sizes fs
end
mutual
def Fm.lvs:Fm→Nat
 | .leaf=>1
 | .gate _ ks=>Fm.lvss ks
def Fm.lvss:List Fm→Nat
 | []=>0
 | f :: fs=>f.lvs+Fm.lvss fs
end
mutual
def Fm.ok:Fm→Prop
 | .leaf=>True
 | .gate need ks=>1≤need∧need≤(ks.length:Int)∧Fm.oks ks
def Fm.oks:List Fm→Prop
 | []=>True
 | f :: fs=>f.ok∧Fm.oks fs
end
/- Which gates hold. -/
def cntB (out:List Bool) (ks:List Int):Nat:=(ks.filter fun k=>out.getD k.toNat false).length
def gateB (out:List Bool) (lf:Int→Bool) (g:Gt):Bool:=if g.kids.l=[] then lf g.leaf else decide (g.need≤(cntB out g.kids.l:Int))
def truL (lf:Int→Bool) (gs:List Gt):Nat→List Bool→List Bool
 | 0,out=>out
 | n+1,out=>truL lf gs n (out.set n (match gs[n]? with
  | some g=>gateB out lf g
  | none=>false))
def tru (lf:Int→Bool) (gs:List Gt):List Bool:=truL lf gs gs.length (List.replicate gs.length false)
theorem truL_len (lf:Int→Bool) (gs:List Gt):∀ (n:Nat) (out:List Bool),(truL lf gs n out).length=out.length
 | 0,out=>rfl
 | n+1,out=>by simp [truL,truL_len lf gs n]
mutual
def Fm.ev (lf:Int→Bool):Nat→Fm→Bool
 | c,.leaf=>lf (c:Int)
 | c,.gate need ks=>decide (need≤(Fm.evs lf c ks:Int))
def Fm.evs (lf:Int→Bool):Nat→List Fm→Nat
 | _,[]=>0
 | c,f :: fs=>(if f.ev lf c then 1 else 0)+Fm.evs lf (c+f.lvs) fs
end
/- Joining. -/
end Go.Ab.Pol
