/-
  The form's reading of policies and schemas, as values of the evaluator's.
-/
import Derived.Test.YtfpmflgjbpnkjaaGreatAbArg
import Derived.Test.YtfpmflgjbpnkjaaGreatAb4zP6
set_option linter.unusedVariables false
namespace Go.Ab.Pz
open Go.Ab.Pol
open Go.Proofs Go.ChangeMaps Go.ChangeShapes Go.WideShapes Go.RowKit
set_option maxRecDepth 100000
theorem slv_lv (nl:Bool) (l:List AV):slv nl l=lv nl l:=by cases l<;>rfl
def Rd {α:Type} (tt:TT) (av:α→AV) (ok:α→Prop):Prop:=∀ v:AV,v.isAgg=tt.agg→tt.Has v.cells→∃ x,v=av x∧ok x
abbrev okI (k:IntKind) (n:Int):Prop:=(Lit.int k n).wf=true
theorem rd_str:Rd .str AV.str okS:=fun v h1 h2=>has_str h1 h2
theorem rd_int (k:IntKind):Rd (.int k) (AV.int k) (okI k):=fun v h1 h2=>has_int h1 h2
abbrev okSl {α:Type} (ok:α→Prop) (s:Sl α):Prop:=s.l.length≤140737488355328∧∀ x∈s.l,ok x
theorem rd_sl {α:Type} {e:TT} {av:α→AV} {ok:α→Prop} (H:Rd e av ok):Rd (.slice e) (fun s:Sl α=>s.avS av) (okSl ok):=fun v h1 h2=>by
 obtain ⟨nl,l,e,h3,h4⟩:=has_slice H h1 h2
 exact ⟨⟨nl,l⟩,by rw [e,slv_lv];rfl,h3,h4⟩
theorem rd_cell {α:Type} {t:TT} {av:α→AV} {ok:α→Prop} {cs:List AV} (ht:t.agg=false) (H:Rd t av ok) (h:t.Has cs):∃ x,cs=[av x]∧ok x:=by
 obtain ⟨v,rfl,h1,h2⟩:=has_one ht h
 obtain ⟨x,rfl,k⟩:=H v h1 h2
 exact ⟨x,rfl,k⟩
theorem rd_struct {α:Type} {fs:List TT} {cs:α→List AV} {ok:α→Prop} (H:∀ l,TT.Hass fs l→∃ x,l=cs x∧ok x):Rd (.struct fs) (fun x=>.agg (cs x)) ok:=fun v h1 h2=>by
 obtain ⟨x,hx,k⟩:=H v.cells h2
 exact ⟨x,by have k:=of_agg h1;rw [hx] at k;exact k,k⟩
abbrev fsUs:List TT:=[.str,.str]
abbrev ttUs:TT:=.struct fsUs
structure aUs (x:Pol.Us):Prop where
 al:okS x.al
 sc:okS x.sc
theorem cs_Us (l:List AV) (h:TT.Hass fsUs l):∃ x:Pol.Us,l=Pol.Us.cs x∧aUs x:=by
 obtain ⟨a0,b0,rfl,p0,q0⟩:=has_cons h
 obtain ⟨x0,rfl,y0⟩:=rd_cell rfl rd_str p0
 obtain ⟨a1,b1,rfl,p1,q1⟩:=has_cons q0
 obtain ⟨x1,rfl,y1⟩:=rd_cell rfl rd_str p1
 obtain rfl:=has_nil q1
 exact ⟨⟨x0,x1⟩,rfl,⟨y0,y1⟩⟩
theorem rd_Us:Rd ttUs Pol.Us.av aUs:=rd_struct cs_Us
abbrev fsRf:List TT:=[.str,.str]
abbrev ttRf:TT:=.struct fsRf
structure aRf (x:Pol.Rf):Prop where
 al:okS x.al
 attr:okS x.attr
theorem cs_Rf (l:List AV) (h:TT.Hass fsRf l):∃ x:Pol.Rf,l=Pol.Rf.cs x∧aRf x:=by
 obtain ⟨a0,b0,rfl,p0,q0⟩:=has_cons h
 obtain ⟨x0,rfl,y0⟩:=rd_cell rfl rd_str p0
 obtain ⟨a1,b1,rfl,p1,q1⟩:=has_cons q0
 obtain ⟨x1,rfl,y1⟩:=rd_cell rfl rd_str p1
 obtain rfl:=has_nil q1
 exact ⟨⟨x0,x1⟩,rfl,⟨y0,y1⟩⟩
theorem rd_Rf:Rd ttRf Pol.Rf.av aRf:=rd_struct cs_Rf
abbrev fsNd:List TT:=[(.int .i64),(.int .i64),.str,.str,(.slice (.int .i64)),(.int .i64)]
abbrev ttNd:TT:=.struct fsNd
structure aNd (x:Pol.Nd):Prop where
 k:okI .i64 x.k
 num:okI .i64 x.num
 nm:okS x.nm
 attr:okS x.attr
 kids:okSl (okI .i64) x.kids
 pos:okI .i64 x.pos
theorem cs_Nd (l:List AV) (h:TT.Hass fsNd l):∃ x:Pol.Nd,l=Pol.Nd.cs x∧aNd x:=by
 obtain ⟨a0,b0,rfl,p0,q0⟩:=has_cons h
 obtain ⟨x0,rfl,y0⟩:=rd_cell rfl (rd_int .i64) p0
 obtain ⟨a1,b1,rfl,p1,q1⟩:=has_cons q0
 obtain ⟨x1,rfl,y1⟩:=rd_cell rfl (rd_int .i64) p1
 obtain ⟨a2,b2,rfl,p2,q2⟩:=has_cons q1
 obtain ⟨x2,rfl,y2⟩:=rd_cell rfl rd_str p2
 obtain ⟨a3,b3,rfl,p3,q3⟩:=has_cons q2
 obtain ⟨x3,rfl,y3⟩:=rd_cell rfl rd_str p3
 obtain ⟨a4,b4,rfl,p4,q4⟩:=has_cons q3
 obtain ⟨x4,rfl,y4⟩:=rd_cell rfl (rd_sl (rd_int .i64)) p4
 obtain ⟨a5,b5,rfl,p5,q5⟩:=has_cons q4
 obtain ⟨x5,rfl,y5⟩:=rd_cell rfl (rd_int .i64) p5
 obtain rfl:=has_nil q5
 exact ⟨⟨x0,x1,x2,x3,x4,x5⟩,rfl,⟨y0,y1,y2,y3,y4,y5⟩⟩
theorem rd_Nd:Rd ttNd Pol.Nd.av aNd:=rd_struct cs_Nd
abbrev fsPo:List TT:=[.str,(.slice ttUs),(.slice ttRf),(.slice ttNd),(.int .i64),.str,(.int .i64),.str]
abbrev ttPo:TT:=.struct fsPo
structure aPo (x:Pol.Po):Prop where
 name:okS x.name
 uses:okSl aUs x.uses
 reveal:okSl aRf x.reveal
 nodes:okSl aNd x.nodes
 root:okI .i64 x.root
 scope:okS x.scope
 limit:okI .i64 x.limit
 escrow:okS x.escrow
theorem cs_Po (l:List AV) (h:TT.Hass fsPo l):∃ x:Pol.Po,l=Pol.Po.cs x∧aPo x:=by
 obtain ⟨a0,b0,rfl,p0,q0⟩:=has_cons h
 obtain ⟨x0,rfl,y0⟩:=rd_cell rfl rd_str p0
 obtain ⟨a1,b1,rfl,p1,q1⟩:=has_cons q0
 obtain ⟨x1,rfl,y1⟩:=rd_cell rfl (rd_sl rd_Us) p1
 obtain ⟨a2,b2,rfl,p2,q2⟩:=has_cons q1
 obtain ⟨x2,rfl,y2⟩:=rd_cell rfl (rd_sl rd_Rf) p2
 obtain ⟨a3,b3,rfl,p3,q3⟩:=has_cons q2
 obtain ⟨x3,rfl,y3⟩:=rd_cell rfl (rd_sl rd_Nd) p3
 obtain ⟨a4,b4,rfl,p4,q4⟩:=has_cons q3
 obtain ⟨x4,rfl,y4⟩:=rd_cell rfl (rd_int .i64) p4
 obtain ⟨a5,b5,rfl,p5,q5⟩:=has_cons q4
 obtain ⟨x5,rfl,y5⟩:=rd_cell rfl rd_str p5
 obtain ⟨a6,b6,rfl,p6,q6⟩:=has_cons q5
 obtain ⟨x6,rfl,y6⟩:=rd_cell rfl (rd_int .i64) p6
 obtain ⟨a7,b7,rfl,p7,q7⟩:=has_cons q6
 obtain ⟨x7,rfl,y7⟩:=rd_cell rfl rd_str p7
 obtain rfl:=has_nil q7
 exact ⟨⟨x0,x1,x2,x3,x4,x5,x6,x7⟩,rfl,⟨y0,y1,y2,y3,y4,y5,y6,y7⟩⟩
theorem rd_Po:Rd ttPo Pol.Po.av aPo:=rd_struct cs_Po
abbrev fsFd:List TT:=[.str,(.int .i64),(.int .i64),(.int .i64),(.slice .str)]
abbrev ttFd:TT:=.struct fsFd
structure aFd (x:Pol.Fd):Prop where
 name:okS x.name
 kind:okI .i64 x.kind
 mn:okI .i64 x.mn
 mx:okI .i64 x.mx
 words:okSl okS x.words
theorem cs_Fd (l:List AV) (h:TT.Hass fsFd l):∃ x:Pol.Fd,l=Pol.Fd.cs x∧aFd x:=by
 obtain ⟨a0,b0,rfl,p0,q0⟩:=has_cons h
 obtain ⟨x0,rfl,y0⟩:=rd_cell rfl rd_str p0
 obtain ⟨a1,b1,rfl,p1,q1⟩:=has_cons q0
 obtain ⟨x1,rfl,y1⟩:=rd_cell rfl (rd_int .i64) p1
 obtain ⟨a2,b2,rfl,p2,q2⟩:=has_cons q1
 obtain ⟨x2,rfl,y2⟩:=rd_cell rfl (rd_int .i64) p2
 obtain ⟨a3,b3,rfl,p3,q3⟩:=has_cons q2
 obtain ⟨x3,rfl,y3⟩:=rd_cell rfl (rd_int .i64) p3
 obtain ⟨a4,b4,rfl,p4,q4⟩:=has_cons q3
 obtain ⟨x4,rfl,y4⟩:=rd_cell rfl (rd_sl rd_str) p4
 obtain rfl:=has_nil q4
 exact ⟨⟨x0,x1,x2,x3,x4⟩,rfl,⟨y0,y1,y2,y3,y4⟩⟩
theorem rd_Fd:Rd ttFd Pol.Fd.av aFd:=rd_struct cs_Fd
abbrev fsSc:List TT:=[.str,(.slice ttFd)]
abbrev ttSc:TT:=.struct fsSc
structure aSc (x:Pol.Sc):Prop where
 name:okS x.name
 fields:okSl aFd x.fields
theorem cs_Sc (l:List AV) (h:TT.Hass fsSc l):∃ x:Pol.Sc,l=Pol.Sc.cs x∧aSc x:=by
 obtain ⟨a0,b0,rfl,p0,q0⟩:=has_cons h
 obtain ⟨x0,rfl,y0⟩:=rd_cell rfl rd_str p0
 obtain ⟨a1,b1,rfl,p1,q1⟩:=has_cons q0
 obtain ⟨x1,rfl,y1⟩:=rd_cell rfl (rd_sl rd_Fd) p1
 obtain rfl:=has_nil q1
 exact ⟨⟨x0,x1⟩,rfl,⟨y0,y1⟩⟩
theorem rd_Sc:Rd ttSc Pol.Sc.av aSc:=rd_struct cs_Sc
structure Pol.Sw where
 node:Int
 number:Int
abbrev Pol.Sw.cs (x:Pol.Sw):List AV:=[.int .u8 x.node,.int .i32 x.number]
abbrev Pol.Sw.av (x:Pol.Sw):AV:=.agg x.cs
structure aSw (x:Pol.Sw):Prop where
 node:okI .u8 x.node
 number:okI .i32 x.number
section
variable {H:Type} {enc:TypeId×Value→H} {W:World} {base b:Nat} {sp:Nat→Bool} {hd:Bool} {v:Value} {d:DataW H} {ps:List MemPlace}
theorem arg_Po (hv:Value.okWide Tryz.prog W .any base 26 v) (h:DataW.Trod enc Tryz.prog W b sp hd 26 v d ps) (hz:∀ n∈d.weights Tryz.prog 26,n≤reachBytes):∃ x:Po,aPo x∧VRel W (G0 W) NoLoc x.av v:=by
 obtain ⟨av,h1,h2,h3⟩:=arg_of (ttPo) (by kernel_rfl) hv h hz
 obtain ⟨x,rfl,k⟩:=(rd_Po) av h2 h1
 exact ⟨x,k,h3⟩
theorem arg_Scs (hv:Value.okWide Tryz.prog W .any base 27 v) (h:DataW.Trod enc Tryz.prog W b sp hd 27 v d ps) (hz:∀ n∈d.weights Tryz.prog 27,n≤reachBytes):∃ x:Sl Sc,okSl aSc x∧VRel W (G0 W) NoLoc (x.avS Sc.av) v:=by
 obtain ⟨av,h1,h2,h3⟩:=arg_of (.slice ttSc) (by kernel_rfl) hv h hz
 obtain ⟨x,rfl,k⟩:=(rd_sl rd_Sc) av h2 h1
 exact ⟨x,k,h3⟩
end
end Go.Ab.Pz
