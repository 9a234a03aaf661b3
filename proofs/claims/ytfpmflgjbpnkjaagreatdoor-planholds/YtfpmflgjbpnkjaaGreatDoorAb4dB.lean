/-
  The form's reading of plans, atoms and lists of numbers, as values of the evaluator's.
-/
import Derived.Test.YtfpmflgjbpnkjaaGreatDoorAb4dA
import Derived.Test.YtfpmflgjbpnkjaaGreatDoorAbPlan
set_option linter.unusedVariables false
set_option linter.unusedSimpArgs false
namespace Go.Ab.Pn
open Go.Ab.Pol
open Go.Proofs Go.ChangeMaps Go.ChangeShapes Go.WideShapes Go.RowKit
set_option maxRecDepth 100000
abbrev fsPc:List TT:=[(.int .i64),(.int .i64)]
abbrev ttPc:TT:=.struct fsPc
structure bPc (x:Pol.Pc):Prop where
 use:okI .i64 x.use
 attr:okI .i64 x.attr
theorem cs_Pc (l:List AV) (h:TT.Hass fsPc l):∃ x:Pol.Pc,l=Pol.Pc.cs x∧bPc x:=by
 obtain ⟨a0,b0,rfl,p0,q0⟩:=has_cons h
 obtain ⟨x0,rfl,y0⟩:=rd_cell rfl (rd_int .i64) p0
 obtain ⟨a1,b1,rfl,p1,q1⟩:=has_cons q0
 obtain ⟨x1,rfl,y1⟩:=rd_cell rfl (rd_int .i64) p1
 obtain rfl:=has_nil q1
 exact ⟨⟨x0,x1⟩,rfl,⟨y0,y1⟩⟩
theorem rd_Pc:Rd ttPc Pol.Pc.av bPc:=rd_struct cs_Pc
abbrev fsPt:List TT:=[(.int .i64),(.int .i64),(.int .i64),(.int .i64),(.int .i64)]
abbrev ttPt:TT:=.struct fsPt
structure bPt (x:Pol.Pt):Prop where
 kind:okI .i64 x.kind
 a:okI .i64 x.a
 b:okI .i64 x.b
 lo:okI .i64 x.lo
 hi:okI .i64 x.hi
theorem cs_Pt (l:List AV) (h:TT.Hass fsPt l):∃ x:Pol.Pt,l=Pol.Pt.cs x∧bPt x:=by
 obtain ⟨a0,b0,rfl,p0,q0⟩:=has_cons h
 obtain ⟨x0,rfl,y0⟩:=rd_cell rfl (rd_int .i64) p0
 obtain ⟨a1,b1,rfl,p1,q1⟩:=has_cons q0
 obtain ⟨x1,rfl,y1⟩:=rd_cell rfl (rd_int .i64) p1
 obtain ⟨a2,b2,rfl,p2,q2⟩:=has_cons q1
 obtain ⟨x2,rfl,y2⟩:=rd_cell rfl (rd_int .i64) p2
 obtain ⟨a3,b3,rfl,p3,q3⟩:=has_cons q2
 obtain ⟨x3,rfl,y3⟩:=rd_cell rfl (rd_int .i64) p3
 obtain ⟨a4,b4,rfl,p4,q4⟩:=has_cons q3
 obtain ⟨x4,rfl,y4⟩:=rd_cell rfl (rd_int .i64) p4
 obtain rfl:=has_nil q4
 exact ⟨⟨x0,x1,x2,x3,x4⟩,rfl,⟨y0,y1,y2,y3,y4⟩⟩
theorem rd_Pt:Rd ttPt Pol.Pt.av bPt:=rd_struct cs_Pt
abbrev fsGt:List TT:=[(.int .i64),(.slice (.int .i64)),(.int .i64)]
abbrev ttGt:TT:=.struct fsGt
structure bGt (x:Pol.Gt):Prop where
 need:okI .i64 x.need
 kids:okSl (okI .i64) x.kids
 leaf:okI .i64 x.leaf
theorem cs_Gt (l:List AV) (h:TT.Hass fsGt l):∃ x:Pol.Gt,l=Pol.Gt.cs x∧bGt x:=by
 obtain ⟨a0,b0,rfl,p0,q0⟩:=has_cons h
 obtain ⟨x0,rfl,y0⟩:=rd_cell rfl (rd_int .i64) p0
 obtain ⟨a1,b1,rfl,p1,q1⟩:=has_cons q0
 obtain ⟨x1,rfl,y1⟩:=rd_cell rfl (rd_sl (rd_int .i64)) p1
 obtain ⟨a2,b2,rfl,p2,q2⟩:=has_cons q1
 obtain ⟨x2,rfl,y2⟩:=rd_cell rfl (rd_int .i64) p2
 obtain rfl:=has_nil q2
 exact ⟨⟨x0,x1,x2⟩,rfl,⟨y0,y1,y2⟩⟩
theorem rd_Gt:Rd ttGt Pol.Gt.av bGt:=rd_struct cs_Gt
abbrev fsFo:List TT:=[(.slice ttGt)]
abbrev ttFo:TT:=.struct fsFo
theorem cs_Fo (l:List AV) (h:TT.Hass fsFo l):∃ x:Sl Gt,l=[x.avS Gt.av]∧okSl bGt x:=by
 obtain ⟨a0,b0,rfl,p0,q0⟩:=has_cons h
 obtain ⟨x0,rfl,y0⟩:=rd_cell rfl (rd_sl rd_Gt) p0
 obtain rfl:=has_nil q0
 exact ⟨x0,rfl,y0⟩
abbrev fsPl:List TT:=[(.slice ttPc),(.slice ttPc),(.slice ttPt),ttFo,(.slice ttPt)]
abbrev ttPl:TT:=.struct fsPl
structure bPl (x:Pl):Prop where
 disc:okSl bPc x.disc
 comm:okSl bPc x.comm
 atoms:okSl bPt x.atoms
 gates:okSl bGt x.gates
 sq:okSl bPt x.sq
theorem cs_Pl (l:List AV) (h:TT.Hass fsPl l):∃ x:Pl,l=Pl.cs x∧bPl x:=by
 obtain ⟨a0,b0,rfl,p0,q0⟩:=has_cons h
 obtain ⟨x0,rfl,y0⟩:=rd_cell rfl (rd_sl rd_Pc) p0
 obtain ⟨a1,b1,rfl,p1,q1⟩:=has_cons q0
 obtain ⟨x1,rfl,y1⟩:=rd_cell rfl (rd_sl rd_Pc) p1
 obtain ⟨a2,b2,rfl,p2,q2⟩:=has_cons q1
 obtain ⟨x2,rfl,y2⟩:=rd_cell rfl (rd_sl rd_Pt) p2
 obtain ⟨a3,b3,rfl,p3,q3⟩:=has_cons q2
 obtain ⟨x3,rfl,y3⟩:=cs_Fo a3 p3
 obtain ⟨a4,b4,rfl,p4,q4⟩:=has_cons q3
 obtain ⟨x4,rfl,y4⟩:=rd_cell rfl (rd_sl rd_Pt) p4
 obtain rfl:=has_nil q4
 exact ⟨⟨x0,x1,x2,x3,x4⟩,rfl,⟨y0,y1,y2,y3,y4⟩⟩
theorem rd_Pl:Rd ttPl Pl.av bPl:=rd_struct cs_Pl
theorem okI_64 {n:Int} (h:okI .i64 n):-9223372036854775808≤n∧n≤9223372036854775807:=by
 have e1:IntKind.i64.min=-9223372036854775808:=by decide
 have e2:IntKind.i64.max=9223372036854775807:=by decide
 have h:(Lit.int .i64 n).wf=true:=h
 simp only [Lit.wf,Bool.and_eq_true,decide_eq_true_eq,e1,e2] at h
 exact h
section
variable {H:Type} {enc:TypeId×Value→H} {W:World} {base b:Nat} {sp:Nat→Bool} {hd:Bool} {v:Value} {d:DataW H} {ps:List MemPlace}
theorem arg_Pt (hv:Value.okWide Tryz.prog W .any base 56 v) (h:DataW.Trod enc Tryz.prog W b sp hd 56 v d ps) (hz:∀ n∈d.weights Tryz.prog 56,n≤reachBytes):∃ x:Pt,bPt x∧VRel W (G0 W) NoLoc x.av v:=by
 obtain ⟨av,h1,h2,h3⟩:=arg_of (ttPt) (by kernel_rfl) hv h hz
 obtain ⟨x,rfl,k⟩:=(rd_Pt) av h2 h1
 exact ⟨x,k,h3⟩
theorem arg_Pl (hv:Value.okWide Tryz.prog W .any base 36 v) (h:DataW.Trod enc Tryz.prog W b sp hd 36 v d ps) (hz:∀ n∈d.weights Tryz.prog 36,n≤reachBytes):∃ x:Pl,bPl x∧VRel W (G0 W) NoLoc x.av v:=by
 obtain ⟨av,h1,h2,h3⟩:=arg_of (ttPl) (by kernel_rfl) hv h hz
 obtain ⟨x,rfl,k⟩:=(rd_Pl) av h2 h1
 exact ⟨x,k,h3⟩
end
end Go.Ab.Pn
