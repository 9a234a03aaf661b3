/-
  The form's reading of policies and schemas, as values of the evaluator's.
-/
import Derived.Test.YtfpmflgjbpnkjaaGreatDoorAbArg
import Derived.Test.YtfpmflgjbpnkjaaGreatDoorAb4dP5
set_option linter.unusedVariables false
set_option linter.unusedSimpArgs false
namespace Go.Ab.Pn
open Go.Ab.Pol
open Go.Proofs Go.ChangeMaps Go.ChangeShapes Go.WideShapes Go.RowKit
set_option maxRecDepth 100000
theorem slv_lv (nl:Bool) (l:List AV):slv nl l=lv nl l:=by cases l<;>rfl
def Rd {α:Type} (tt:TT) (av:α→AV) (ok:α→Prop):Prop:=∀ v:AV,v.isAgg=tt.agg→tt.Has v.cells→∃ x,v=av x∧ok x
abbrev okI (k:IntKind) (n:Int):Prop:=(Lit.int k n).wf=true
theorem rd_int (k:IntKind):Rd (.int k) (AV.int k) (okI k):=fun v h1 h2=>has_int h1 h2
abbrev okSl {α:Type} (ok:α→Prop) (s:Sl α):Prop:=s.l.length≤140737488355328∧∀ x∈s.l,ok x
theorem rd_sl {α:Type} {e:TT} {av:α→AV} {ok:α→Prop} (H:Rd e av ok):Rd (.slice e) (fun s:Sl α=>s.avS av) (okSl ok):=fun v h1 h2=>by
 obtain ⟨nl,l,e,h3,h4⟩:=has_slice H h1 h2
 exact ⟨⟨nl,l⟩,by rw [e,slv_lv];rfl,h3,h4⟩
theorem rd_cell {α:Type} {t:TT} {av:α→AV} {ok:α→Prop} {cs:List AV} (ht:t.agg=false) (H:Rd t av ok) (h:t.Has cs):∃ x,cs=[av x]∧ok x:=by
 obtain ⟨v,rfl,h1,h2⟩:=has_one ht h
 obtain ⟨x,rfl,k⟩:=H v h1 h2
 exact ⟨x,rfl,k⟩
theorem rd_struct {α:Type} {fs:List TT} {cs:α→List AV} {ok:α→Prop} (H:∀ l,TT.Hass fs l→∃ x,l=cs x∧ok x):Rd (.struct fs) (fun x=>.agg (cs x)) ok:=fun v h1 h2=>by
 obtain ⟨x,hx,k⟩:=H v.cells h2
 exact ⟨x,by have k:=of_agg h1;rw [hx] at k;exact k,k⟩
structure aUs (x:Pol.Us):Prop where
 al:okS x.al
 sc:okS x.sc
structure aRf (x:Pol.Rf):Prop where
 al:okS x.al
 attr:okS x.attr
structure aNd (x:Pol.Nd):Prop where
 k:okI .i64 x.k
 num:okI .i64 x.num
 nm:okS x.nm
 attr:okS x.attr
 kids:okSl (okI .i64) x.kids
 pos:okI .i64 x.pos
structure aPo (x:Pol.Po):Prop where
 name:okS x.name
 uses:okSl aUs x.uses
 reveal:okSl aRf x.reveal
 nodes:okSl aNd x.nodes
 root:okI .i64 x.root
 scope:okS x.scope
 limit:okI .i64 x.limit
 escrow:okS x.escrow
structure aFd (x:Pol.Fd):Prop where
 name:okS x.name
 kind:okI .i64 x.kind
 mn:okI .i64 x.mn
 mx:okI .i64 x.mx
 words:okSl okS x.words
structure aSc (x:Pol.Sc):Prop where
 name:okS x.name
 fields:okSl aFd x.fields
structure Pol.Sw where
 node:Int
 number:Int
abbrev Pol.Sw.cs (x:Pol.Sw):List AV:=[.int .u8 x.node,.int .i32 x.number]
abbrev Pol.Sw.av (x:Pol.Sw):AV:=.agg x.cs
structure aSw (x:Pol.Sw):Prop where
 node:okI .u8 x.node
 number:okI .i32 x.number
section
variable {H:Type} {enc:TypeId×Value→H} {W:World} {base b:Nat} {sp:Nat→Bool} {hd:Bool} {v:Value} {d:DataW H} {ps:List MemPlace}
theorem arg_Ints (hv:Value.okWide Tryz.prog W .any base 57 v) (h:DataW.Trod enc Tryz.prog W b sp hd 57 v d ps) (hz:∀ n∈d.weights Tryz.prog 57,n≤reachBytes):∃ x:Sl Int,okSl (okI .i64) x∧VRel W (G0 W) NoLoc (x.avS iV) v:=by
 obtain ⟨av,h1,h2,h3⟩:=arg_of (.slice (.int .i64)) (by kernel_rfl) hv h hz
 obtain ⟨x,rfl,k⟩:=(rd_sl (rd_int .i64)) av h2 h1
 exact ⟨x,k,h3⟩
end
end Go.Ab.Pn
