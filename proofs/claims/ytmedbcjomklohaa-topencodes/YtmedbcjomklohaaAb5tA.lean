/-
  The form's reading of messages, as values of the evaluator's.
-/
import Derived.Test.YtmedbcjomklohaaAb5tT5
import Derived.Test.YtmedbcjomklohaaAbArg
import Derived.Test.YtmedbcjomklohaaRows
set_option linter.unusedVariables false
namespace Go.Ab.WireT
open Go.Proofs Go.ChangeMaps Go.ChangeShapes Go.WideShapes Go.RowKit
set_option maxRecDepth 100000
theorem slv_lv (nl:Bool) (l:List AV):slv nl l=lv nl l:=by cases l<;>rfl
def Rd {α:Type} (tt:TT) (av:α→AV):Prop:=∀ v:AV,v.isAgg=tt.agg→tt.Has v.cells→∃ x,v=av x
theorem rd_str:Rd .str AV.str:=fun v h1 h2=>by
 obtain ⟨s,e,_⟩:=has_str h1 h2
 exact ⟨s,e⟩
theorem rd_int:Rd (.int .i64) (AV.int .i64):=fun v h1 h2=>by
 obtain ⟨s,e,_⟩:=has_int h1 h2
 exact ⟨s,e⟩
theorem rd_bool:Rd .bool AV.bool:=fun v h1 h2=>has_bool h1 h2
theorem rd_sl {α:Type} {e:TT} {av:α→AV} (H:Rd e av):Rd (.slice e) (fun s:Sl α=>s.avS av):=fun v h1 h2=>by
 obtain ⟨nl,l,e,_,_⟩:=has_slice (ok:=fun _=>True) (fun v h1 h2=>by
  obtain ⟨x,hx⟩:=H v h1 h2
  exact ⟨x,hx,trivial⟩) h1 h2
 exact ⟨⟨nl,l⟩,by rw [e,slv_lv]⟩
theorem rd_cell {α:Type} {t:TT} {av:α→AV} {cs:List AV} (ht:t.agg=false) (H:Rd t av) (h:t.Has cs):∃ x,cs=[av x]:=by
 obtain ⟨v,rfl,h1,h2⟩:=has_one ht h
 obtain ⟨x,rfl⟩:=H v h1 h2
 exact ⟨x,rfl⟩
theorem rd_struct {α:Type} {fs:List TT} {cs:α→List AV} (H:∀ l,TT.Hass fs l→∃ x,l=cs x):Rd (.struct fs) (fun x=>.agg (cs x)):=fun v h1 h2=>by
 obtain ⟨x,hx⟩:=H v.cells h2
 exact ⟨x,by have k:=of_agg h1;rw [hx] at k;exact k⟩
abbrev fsIg:List TT:=[.bool,.str]
abbrev ttIg:TT:=.struct fsIg
theorem cs_Ig (l:List AV) (h:TT.Hass fsIg l):∃ x:Ig,l=[.bool x.ng,.str x.ab]:=by
 obtain ⟨a0,b0,rfl,p0,q0⟩:=has_cons h
 obtain ⟨x0,rfl⟩:=rd_cell rfl rd_bool p0
 obtain ⟨a1,b1,rfl,p1,q1⟩:=has_cons q0
 obtain ⟨x1,rfl⟩:=rd_cell rfl rd_str p1
 obtain rfl:=has_nil q1
 exact ⟨⟨x0,x1⟩,rfl⟩
theorem rd_Ig:Rd ttIg Ig.av:=rd_struct (cs:=fun x:Ig=>[.bool x.ng,.str x.ab]) cs_Ig
abbrev fsP2:List TT:=[.str,.str]
abbrev ttP2:TT:=.struct fsP2
theorem cs_P2 (l:List AV) (h:TT.Hass fsP2 l):∃ x:P2,l=P2.cs x:=by
 obtain ⟨a0,b0,rfl,p0,q0⟩:=has_cons h
 obtain ⟨x0,rfl⟩:=rd_cell rfl rd_str p0
 obtain ⟨a1,b1,rfl,p1,q1⟩:=has_cons q0
 obtain ⟨x1,rfl⟩:=rd_cell rfl rd_str p1
 obtain rfl:=has_nil q1
 exact ⟨⟨x0,x1⟩,rfl⟩
abbrev fsPf:List TT:=[.str,(.slice ttIg),(.slice .str),(.slice (.slice ttIg))]
abbrev ttPf:TT:=.struct fsPf
theorem cs_Pf (l:List AV) (h:TT.Hass fsPf l):∃ x:Pf,l=Pf.cs x:=by
 obtain ⟨a0,b0,rfl,p0,q0⟩:=has_cons h
 obtain ⟨x0,rfl⟩:=rd_cell rfl rd_str p0
 obtain ⟨a1,b1,rfl,p1,q1⟩:=has_cons q0
 obtain ⟨x1,rfl⟩:=rd_cell rfl (rd_sl rd_Ig) p1
 obtain ⟨a2,b2,rfl,p2,q2⟩:=has_cons q1
 obtain ⟨x2,rfl⟩:=rd_cell rfl (rd_sl rd_str) p2
 obtain ⟨a3,b3,rfl,p3,q3⟩:=has_cons q2
 obtain ⟨x3,rfl⟩:=rd_cell rfl (rd_sl (rd_sl rd_Ig)) p3
 obtain rfl:=has_nil q3
 exact ⟨⟨x0,x1,x2,x3⟩,rfl⟩
abbrev fsSh:List TT:=[.str,(.int .i64),.str,.str,(.slice .str)]
abbrev ttSh:TT:=.struct fsSh
theorem cs_Sh (l:List AV) (h:TT.Hass fsSh l):∃ x:Sh,l=Sh.cs x:=by
 obtain ⟨a0,b0,rfl,p0,q0⟩:=has_cons h
 obtain ⟨x0,rfl⟩:=rd_cell rfl rd_str p0
 obtain ⟨a1,b1,rfl,p1,q1⟩:=has_cons q0
 obtain ⟨x1,rfl⟩:=rd_cell rfl rd_int p1
 obtain ⟨a2,b2,rfl,p2,q2⟩:=has_cons q1
 obtain ⟨x2,rfl⟩:=rd_cell rfl rd_str p2
 obtain ⟨a3,b3,rfl,p3,q3⟩:=has_cons q2
 obtain ⟨x3,rfl⟩:=rd_cell rfl rd_str p3
 obtain ⟨a4,b4,rfl,p4,q4⟩:=has_cons q3
 obtain ⟨x4,rfl⟩:=rd_cell rfl (rd_sl rd_str) p4
 obtain rfl:=has_nil q4
 exact ⟨⟨x0,x1,x2,x3,x4⟩,rfl⟩
theorem rd_Sh:Rd ttSh Sh.av:=rd_struct cs_Sh
abbrev fsPr:List TT:=[(.slice ttSh),(.slice .str),(.slice (.slice .str)),(.slice (.slice .str)),.str,.str,.str,(.slice .str),ttP2,ttPf]
abbrev ttPr:TT:=.struct fsPr
theorem cs_Pr (l:List AV) (h:TT.Hass fsPr l):∃ x:Pr,l=Pr.cs x:=by
 obtain ⟨a0,b0,rfl,p0,q0⟩:=has_cons h
 obtain ⟨x0,rfl⟩:=rd_cell rfl (rd_sl rd_Sh) p0
 obtain ⟨a1,b1,rfl,p1,q1⟩:=has_cons q0
 obtain ⟨x1,rfl⟩:=rd_cell rfl (rd_sl rd_str) p1
 obtain ⟨a2,b2,rfl,p2,q2⟩:=has_cons q1
 obtain ⟨x2,rfl⟩:=rd_cell rfl (rd_sl (rd_sl rd_str)) p2
 obtain ⟨a3,b3,rfl,p3,q3⟩:=has_cons q2
 obtain ⟨x3,rfl⟩:=rd_cell rfl (rd_sl (rd_sl rd_str)) p3
 obtain ⟨a4,b4,rfl,p4,q4⟩:=has_cons q3
 obtain ⟨x4,rfl⟩:=rd_cell rfl rd_str p4
 obtain ⟨a5,b5,rfl,p5,q5⟩:=has_cons q4
 obtain ⟨x5,rfl⟩:=rd_cell rfl rd_str p5
 obtain ⟨a6,b6,rfl,p6,q6⟩:=has_cons q5
 obtain ⟨x6,rfl⟩:=rd_cell rfl rd_str p6
 obtain ⟨a7,b7,rfl,p7,q7⟩:=has_cons q6
 obtain ⟨x7,rfl⟩:=rd_cell rfl (rd_sl rd_str) p7
 obtain ⟨a8,b8,rfl,p8,q8⟩:=has_cons q7
 obtain ⟨x8,rfl⟩:=cs_P2 a8 p8
 obtain ⟨a9,b9,rfl,p9,q9⟩:=has_cons q8
 obtain ⟨x9,rfl⟩:=cs_Pf a9 p9
 obtain rfl:=has_nil q9
 exact ⟨⟨x0,x1,x2,x3,x4,x5,x6,x7,x8,x9⟩,rfl⟩
theorem rd_Pr:Rd ttPr Pr.av:=rd_struct cs_Pr
section
variable {H:Type} {enc:TypeId×Value→H} {W:World} {base b:Nat} {sp:Nat→Bool} {hd:Bool} {v:Value} {d:DataW H} {ps:List MemPlace}
theorem arg_Pr (hv:Value.okWide Try.prog W .any base 33 v) (h:DataW.Trod enc Try.prog W b sp hd 33 v d ps) (hz:∀ n∈d.weights Try.prog 33,n≤reachBytes):∃ x:Pr,VRel W (G0 W) NoLoc x.av v:=by
 obtain ⟨av,h1,h2,h3⟩:=arg_of ttPr (by kernel_rfl) hv h hz
 obtain ⟨x,rfl⟩:=rd_Pr av h2 h1
 exact ⟨x,h3⟩
theorem arg_u16 (hv:Value.okWide Try.prog W .any base 34 v) (h:DataW.Trod enc Try.prog W b sp hd 34 v d ps) (hz:∀ n∈d.weights Try.prog 34,n≤reachBytes):∃ x:Nat,x < 65536∧VRel W (G0 W) NoLoc (.int .u16 (x:Int)) v:=by
 obtain ⟨av,h1,h2,h3⟩:=arg_of (.int .u16) (by kernel_rfl) hv h hz
 obtain ⟨n,rfl,hw⟩:=has_int h2 h1
 have w:0≤n∧n < 65536:=by simp [Lit.wf,IntKind.min,IntKind.max,IntKind.bits,IntKind.signed] at hw;omega
 obtain ⟨m,rfl⟩:=Int.eq_ofNat_of_zero_le w.1
 exact ⟨m,by omega,h3⟩
theorem arg_u8 (hv:Value.okWide Try.prog W .any base 5 v) (h:DataW.Trod enc Try.prog W b sp hd 5 v d ps) (hz:∀ n∈d.weights Try.prog 5,n≤reachBytes):∃ x:UInt8,VRel W (G0 W) NoLoc (.int .u8 (x.toNat:Int)) v:=by
 obtain ⟨av,h1,h2,h3⟩:=arg_of (.int .u8) (by kernel_rfl) hv h hz
 obtain ⟨n,rfl,hw⟩:=has_int h2 h1
 have w:0≤n∧n < 256:=by simp [Lit.wf,IntKind.min,IntKind.max,IntKind.bits,IntKind.signed] at hw;omega
 obtain ⟨m,rfl⟩:=Int.eq_ofNat_of_zero_le w.1
 refine ⟨UInt8.ofNat m,?_⟩
 have e:(UInt8.ofNat m).toNat=m:=by
  rw [UInt8.toNat_ofNat']
  omega
 rw [e]
 exact h3
end
end Go.Ab.WireT
