/-
  The operations that read no memory, one by one.
-/
import Derived.Test.YtjnomgdildcbhaaGreatDoorAbPure
import Derived.LaidEql
import Derived.KernelRfl
set_option linter.all false
namespace Go.Ab
open Go.RowKit
variable{P:Program}{w:World}{G:Gm}{L:Loc->Prop}
def Yields(P:Program)(w:World)(G:Gm)(L:Loc->Prop)(a:Act)(o:Oper)(v:AV):Prop:=
 ∃x,(execOp a.eval o).run P w=.ok (.value x) w∧aD w G L v x
theorem iJ{t:TypeId}{ag:Bool}{sz:Nat}(h:shapeOf P t=some (ag,sz)) :
  ∃d i,P.underlying t=some d∧P.info? t=some i∧i.size=sz∧ag=(match d with|.struct _|.array _ _=>true|_=>false):=by
 unfold shapeOf at h;cases hd:P.underlying t with
 |none=>simp[hd]at h
 |some d=>
  cases hi:P.info? t with
  |none=>simp[hd,hi]at h
  |some i=>
   simp only[hd,hi,fS,afn]at h;exact⟨d,i,rfl,rfl,h.2,h.1.symm⟩
theorem run_sizeOf{t:TypeId}{ag:Bool}{sz:Nat}(h:shapeOf P t=some (ag,sz))(w:World):(sizeOf t).run P w=.ok sz w:=by
 obtain⟨d,i,_,hi,hs,_⟩:=iJ h;simp[sizeOf,typeInfo,hi,hs]
theorem zx{t:TypeId}{ag:Bool}{sz:Nat}(h:shapeOf P t=some (ag,sz))(w:World):(isAgg t).run P w=.ok ag w:=by
 obtain⟨d,i,hd,_,_,ha⟩:=iJ h;subst ha;unfold isAgg;simp only[afs,run_underlying hd,Result.andThen];cases d<;>rfl
theorem Aq{t:TypeId}{i off:Nat}{ft:TypeId}(h:tv P t i=some (off,ft)) :
  ∃fs f,P.underlying t=some (.struct fs)∧fs[i]?=some f∧f.offset=off∧f.type=ft:=by
 unfold tv at h;cases hd:P.underlying t with
 |none=>simp[hd]at h
 |some d=>
  cases d<;>try (simp[hd]at h;done)
  rename_i fs;cases hf:fs[i]? with
  |none=>simp[hd,hf]at h
  |some f=>
   simp only[hd,hf,fS,afn]at h;exact⟨fs,f,rfl,hf,h.1,h.2⟩
theorem acK{e:Env}{a:Act}(he:aF w G L e a){o:Oper}{x:Operand}{y:Opd}(ho:o.op=.move x∨o.op=.assign x)(hx:aS x=some y):Yields P w G L a o (y.ev e):=by
 refine⟨a.eval x,?_,aG he hx⟩;rcases ho with ho|ho<;>simp[execOp,ho]
theorem Yd{e:Env}{a:Act}(he:aF w G L e a){o:Oper}{c x z:Operand}{c' x' z':Opd}(ho:o.op=.pick c x z)(hc:aS c=some c')(hx:aS x=some x')
  (hz:aS z=some z') {v:AV} (hv:evP (.pick c' x' z') e=some v):Yields P w G L a o v:=by
 simp only[evP]at hv;split at hv
 ·rename_i t ht;injection hv with hv
  subst hv;have h1:=aG he hc;rw[ht]at h1;have h2:=cm h1;cases t
  ·exact⟨a.eval z,by simp[execOp,ho,h2,asBool],aG he hz⟩
  ·exact⟨a.eval x,by simp[execOp,ho,h2,asBool],aG he hx⟩
 ·cases hv
theorem cY{t:TypeId}{z:AV}(h:zeroOf P t=some z):∃i zv,P.info? t=some i∧i.zero=some zv∧z=ofV zv∧z.cells.length=i.size:=by
 unfold zeroOf at h;cases hi:P.info? t with
 |none=>simp[hi]at h
 |some i=>
  cases hz:i.zero with
  |none=>simp[hi,hz]at h
  |some zv=>
   simp only[hi,hz]at h;split at h
   ·rename_i c;injection h with h
    subst h;exact⟨i,zv,rfl,hz,rfl,c⟩
   ·cases h
theorem acL{e:Env}{a:Act}(he:aF w G L e a){o:Oper}{t:TypeId}{ps:Array (Nat×Operand)}{z:List AV}{pl:Nat->Option (Nat×Nat)}{s:List (Nat×Nat×Opd)}
  (ho:o.op=.build t ps) (hz:zeroOf P t=some (.agg z)) (hpl:placesOf P t=some pl) (hs:partsOf pl ps.toList=some s) {v:AV} (hv:evP (.bld z s) e=some v):Yields P w G L a o v:=by
 simp only[evP]at hv;split at hv
 ·rename_i cs hcs;injection hv with hv
  subst hv;obtain⟨i,zv,hi,hzv,hzz,hzl⟩:=cY hz;have hzr:aD w G L (.agg z) zv:=by rw[hzz];exact fD zv
  have hzc:dx w G L z zv.cells:=by
   obtain⟨vs,rfl,h1,h2,h3⟩:=iI hzr;exact⟨h1,λi hi=>⟨h2 i hi,h3 i hi⟩⟩
  obtain⟨cells,k1,k2⟩:=Jh he hs hzc hcs;refine⟨.agg cells,?_,k2.agg⟩;have hb:P.built t (ps.map λ(i,x)=>(i,a.eval x)).toList=some cells:=by
   unfold placesOf at hpl;unfold Program.built;cases hu:P.underlying t with
   |none=>simp[hi,hu]at hpl
   |some d=>
    cases d<;>try (simp[hi,hu]at hpl;done)
    case array n el=>
     cases hie:P.info? el with
     |none=>simp[hi,hu,hie]at hpl
     |some ie=>
      simp only[hi,hu,hie,fS]at hpl;subst hpl;simp only[hi,hzv,hie,Array.toList_map];exact k1
    case struct fields=>
     cases Yi:fields.toList.mapM (λf=>(P.info? f.type).map λi=>(f.offset,i.size)) with
     |none=>simp[hi,hu,Yi]at hpl
     |some places=>
      simp only[hi,hu,Yi,fS]at hpl;subst hpl;simp only[hi,hzv,Yi,Array.toList_map];exact k1
  have hr:=run_build (P:=P) w t (ps.map λ(i,x)=>(i,a.eval x)) cells hb;simp[execOp,ho,hr]
 ·cases hv
theorem fU(b o n:Nat):(⟨b,o,none⟩:Addr).add n=⟨b,o+n,none⟩:=by
 unfold Addr.add;split<;>simp_all
theorem aeR{e:Env}{a:Act}(he:aF w G L e a){o:Oper}{t:TypeId}{x:Operand}{y:Opd}{i off sz:Nat}{ft:TypeId}{ag:Bool}
  (ho:o.op=.fieldAddr t x i) (hx:aS x=some y) (hf:tv P t i=some (off,ft)) (hsh:shapeOf P ft=some (ag,sz)) (hsz:0<sz) {v:AV} (hv:evP (.fa off y) e=some v) :
  Yields P w G L a o v:=by
 obtain⟨fs,f,hu,hfi,hoff,hft⟩:=Aq hf;have hr:=aG he hx;have key:∀b k,a.eval x=.pointer (some ⟨b,k,none⟩)->(execOp a.eval o).run P w=.ok (.value (.pointer (some ⟨b,k+off,none⟩))) w:=λb k hxv=>by
  have hs:(sizeOf f.type).run P w=.ok sz w:=by rw[hft];exact run_sizeOf hsh w
  have hne:¬ sz=0:=by omega
  simp[execOp,ho,hxv,Instr.fieldAt,run_underlying hu,hfi,Instr.sureAddr,fieldPlace,hs,hne,hoff,fU]
 simp only[evP]at hv;split at hv
 ·rename_i la k hk;injection hv with hv
  subst hv;rw[hk]at hr;generalize hg:a.eval x=xv at hr;cases hr with
  |ptr L la k b hLa hm h=>exact⟨_,key b k hg,.ptr _ la _ b hLa hm h⟩
 ·rename_i la n s j k hk;injection hv with hv
  subst hv;rw[hk]at hr;generalize hg:a.eval x=xv at hr;cases hr with
  |dN L la n s j k m b hLa hm hle h=>
   exact⟨_,key b _ hg,by rw[af5];exact .dN _ la n s j _ m b hLa hm hle h⟩
 ·rename_i u k hk;injection hv with hv
  subst hv;rw[hk]at hr;generalize hg:a.eval x=xv at hr;cases hr with
  |eF L u k b of vf hc hv=>
   exact⟨_,key b _ hg,by rw[af5];exact .eF _ u _ b of vf hc hv⟩
 ·cases hv
theorem rW{cs:List AV}{vs:Array Value}(h:dx w G L cs vs){t:TypeId}{ag:Bool}{sz off:Nat}(hsh:shapeOf P t=some (ag,sz)){v:AV}
  (hv:(if ag then (if off+sz<=cs.length then some (.agg ((cs.drop off).take sz)) else none) else cs[off]?)=some v) :
  ∃x,(part t vs off).run P w=.ok x w∧aD w G L v x:=by
 have hA:=zx hsh w;have hS:=run_sizeOf hsh w;cases ag with
 |true=>
  simp only[if_true]at hv;split at hv
  ·rename_i c;injection hv with hv
   subst hv;refine⟨.agg (vs.extract off (off+sz)),by simp[part,hA,hS],.agg _ _ _ ?_ (λi hi=>?_) λi hi=>?_⟩
   ·have:=h.1;simp;omega
   ·simp at hi;have:=(h.2 (off+i) (by omega)).1;have hl:=h.1;have e:(vs.extract off (off+sz)).getD i undef=vs.getD (off+i) undef:=by
     simp only[afx,Array.getElem?_extract];rw[if_pos (by omega)]
    rw[e];exact this
   ·simp at hi;have:=(h.2 (off+i) (by omega)).2;have hl:=h.1;have e:(vs.extract off (off+sz)).getD i undef=vs.getD (off+i) undef:=by
     simp only[afx,Array.getElem?_extract];rw[if_pos (by omega)]
    have e2:((cs.drop off).take sz).getD i .top=cs.getD (off+i) .top:=by
     simp only[afk];rw[af2 (by omega),ags]
    rw[e,e2];exact this
  ·cases hv
 |false=>
  simp only[afA,if_false]at hv;have hlt:=(aft.1 hv).1;have hl:=h.1;have hx:vs[off]?=some (vs.getD off undef):=by rw[afx,afW (by omega)];rfl
  have h2:=(h.2 off hlt).2;have e:cs.getD off .top=v:=by simp[afk,hv]
  rw[e]at h2;exact⟨_,by simp only[part,afs,hA,Result.andThen,afA,if_false,hx];rfl,h2⟩
theorem acT{e:Env}{a:Act}(he:aF w G L e a){o:Oper}{t:TypeId}{x:Operand}{y:Opd}{i off sz:Nat}{ft:TypeId}{ag:Bool}
  (ho:o.op=.field t x i) (hx:aS x=some y) (hf:tv P t i=some (off,ft)) (hsh:shapeOf P ft=some (ag,sz)) {v:AV} (hv:evP (.fld ag off sz y) e=some v) :
  Yields P w G L a o v:=by
 obtain⟨fs,f,hu,hfi,hoff,hft⟩:=Aq hf;have hr:=aG he hx;simp only[evP]at hv;split at hv
 ·rename_i cs hcs;rw[hcs]at hr;obtain⟨vs,hxv,h1,h2,h3⟩:=iI hr;obtain⟨r,hr1,hr2⟩:=rW ⟨h1,λi hi=>⟨h2 i hi,h3 i hi⟩⟩ hsh hv;refine⟨r,?_,hr2⟩;rw[<-hft,<-hoff]at hr1;simp[execOp,ho,hxv,Instr.field,run_underlying hu,hfi,asAgg,hr1]
 ·cases hv
theorem acU{e:Env}{a:Act}(he:aF w G L e a){o:Oper}{t el:TypeId}{x i:Operand}{y j:Opd}{n sz:Nat}{ag:Bool}
  (ho:o.op=.indexAddr t x i) (hx:aS x=some y) (hi:aS i=some j) (hu:P.underlying t=some (.array n el)) (hsh:shapeOf P el=some (ag,sz)) {v:AV}
  (hv:evP (.iaA n sz y j) e=some v):Yields P w G L a o v:=by
 have hr:=aG he hx;have hri:=aG he hi;have hS:=run_sizeOf hsh w;have key:∀b k kd q,a.eval x=.pointer (some ⟨b,k,none⟩)->a.eval i=.int kd q->0<=q∧q<n ->
   (execOp a.eval o).run P w=.ok (.value (.pointer (some ⟨b,k+q.toNat*sz,none⟩))) w:=λb k kd q hxv hiv hq=>by
  simp[execOp,ho,hxv,hiv,Instr.indexAt,asIntOf,run_underlying hu,Instr.sureAddr,hq,hS,fU]
 simp only[evP]at hv;split at hv
 ·rename_i la k kd q hk hq;split at hv
  ·rename_i c;injection hv with hv
   subst hv;rw[hk]at hr;rw[hq]at hri;have hiv:=aU hri;generalize hg:a.eval x=xv at hr;cases hr with
   |ptr L la k b hLa hm h=>exact⟨_,key b k kd q hg hiv c,.ptr _ la _ b hLa hm h⟩
  ·cases hv
 ·rename_i u k kd q hk hq;split at hv
  ·rename_i c;injection hv with hv
   subst hv;rw[hk]at hr;rw[hq]at hri;have hiv:=aU hri;generalize hg:a.eval x=xv at hr;cases hr with
   |eF L u k b of vf hc hv=>exact⟨_,key b _ kd q hg hiv c,by rw[af5];exact .eF _ u _ b of vf hc hv⟩
  ·cases hv
 ·cases hv
theorem acV{e:Env}{a:Act}(he:aF w G L e a){o:Oper}{t el:TypeId}{x i:Operand}{y j:Opd}{sz:Nat}{ag:Bool}
  (ho:o.op=.indexAddr t x i) (hx:aS x=some y) (hi:aS i=some j) (hu:P.underlying t=some (.slice el)) (hsh:shapeOf P el=some (ag,sz)) {v:AV}
  (hv:evP (.iaS sz y j) e=some v):Yields P w G L a o v:=by
 have hr:=aG he hx;have hri:=aG he hi;have hS:=run_sizeOf hsh w;have key:∀b k len c kd q,a.eval x=.slice (some ⟨b,k,none⟩) len c->a.eval i=.int kd q->0<=q∧q<len ->
   (execOp a.eval o).run P w=.ok (.value (.pointer (some ⟨b,k+q.toNat*sz,none⟩))) w:=λb k len c kd q hxv hiv hq=>by
  simp[execOp,ho,hxv,hiv,Instr.indexAt,asIntOf,run_underlying hu,hq,hS,fU]
 simp only[evP]at hv;split at hv
 ·rename_i es kd q hk hq;split at hv
  ·rename_i c0;split at hv
   ·rename_i u hu';split at hv
    ·rename_i c1;injection hv with hv
     subst hv;rw[hk]at hr;rw[hq]at hri;have hiv:=aU hri;have hlt:=(aft.1 hu').1;have hgd:es.getD q.toNat .top=u:=by simp[afk,hu']
     generalize hg:a.eval x=xv at hr;cases hr with
     |mU L p c=>simp at hlt
     |lst L es b off c s vf hle hs hc hv=>
      have hs1:s=sz:=by rw[<-hs q.toNat hlt,hgd,c1]
      subst hs1;refine⟨_,key b off es.length c kd q hg hiv ⟨c0,by omega⟩,?_⟩;have:=aD.eF (w:=w) (G:=G) L u 0 b (off+q.toNat*s) (vf q.toNat) (λj hj=>hc _ _ hlt (by omega)) (λj hj=>by
       have:=hv q.toNat j hlt (by omega);rwa[hgd]at this)
      exact this
    ·cases hv
   ·cases hv
  ·cases hv
 ·rename_i la n kd q hk hq;split at hv
  ·rename_i c0;injection hv with hv
   subst hv;rw[hk]at hr;rw[hq]at hri;have hiv:=aU hri;generalize hg:a.eval x=xv at hr;cases hr with
   |own L la n m xv hLa hm hle hov h=>
    rcases hov with⟨h0,_⟩|⟨b,c,hxv⟩
    ·omega
    ·subst hxv;have:=aD.dN (w:=w) (G:=G) L la n sz q.toNat 0 m b hLa hm hle (λe=>by
      have:=h e;unfold dD at this;split at this
      ·cases this
      ·rename_i b' hb';injection this with h1 h2
       injection h1 with h1
       injection h1 with h1
       rw[hb',h1])
     refine⟨_,key b 0 n c kd q hg hiv c0,?_⟩;rwa[afu]
  ·cases hv
 ·cases hv
theorem acW{e:Env}{a:Act}(he:aF w G L e a){o:Oper}{t el:TypeId}{x i:Operand}{y j:Opd}{n sz:Nat}{ag:Bool}
  (ho:o.op=.index t x i) (hx:aS x=some y) (hi:aS i=some j) (hu:P.underlying t=some (.array n el)) (hsh:shapeOf P el=some (ag,sz)) {v:AV}
  (hv:evP (.ixA ag n sz y j) e=some v):Yields P w G L a o v:=by
 have hr:=aG he hx;have hri:=aG he hi;have hS:=run_sizeOf hsh w;simp only[evP]at hv;split at hv
 ·rename_i cs kd q hk hq;split at hv
  ·rename_i c;rw[hk]at hr;rw[hq]at hri;have hiv:=aU hri;obtain⟨vs,hxv,h1,h2,h3⟩:=iI hr;obtain⟨r,hr1,hr2⟩:=rW ⟨h1,λi hi=>⟨h2 i hi,h3 i hi⟩⟩ hsh hv;exact⟨r,by simp[execOp,ho,hxv,hiv,Instr.index,asIntOf,run_underlying hu,c,hS,hr1],hr2⟩
  ·cases hv
 ·cases hv
theorem acX{e:Env}{a:Act}(he:aF w G L e a){o:Oper}{t:TypeId}{x i:Operand}{y j:Opd}
  (ho:o.op=.index t x i) (hx:aS x=some y) (hi:aS i=some j) (hu:P.underlying t=some .string) {v:AV}
  (hv:evP (.ixS y j) e=some v):Yields P w G L a o v:=by
 have hr:=aG he hx;have hri:=aG he hi;simp only[evP]at hv;split at hv
 ·rename_i s kd q hk hq;split at hv
  ·rename_i c;split at hv
   ·rename_i b hb;injection hv with hv
    subst hv;rw[hk]at hr;rw[hq]at hri;have hiv:=aU hri;have hxv:=cJ hr;have hlt:=(aft.1 hb).1;have hge:=(aft.1 hb).2;have hsz:(⟨s.toArray⟩:ByteArray).size=s.length:=by simp[ByteArray.size]
    have hq2:0<=q∧q<((⟨s.toArray⟩:ByteArray).size:Int):=⟨c,by rw[hsz];omega⟩
    have hrun:=run_index_string (P:=P) w t ⟨s.toArray⟩ kd q hu;rw[dif_pos hq2]at hrun;refine⟨.int .u8 (b.toNat:Int),?_,.int _ _ _⟩;have hbb:((⟨s.toArray⟩:ByteArray)[q.toNat]'(by rw[hsz];exact hlt))=b:=by rw[<-hge];rfl
    simp only[execOp,ho,hxv,hiv,afs,hrun,hbb,Result.andThen];rfl
   ·cases hv
  ·cases hv
 ·cases hv
theorem Ou{op:BinOp}{k:IntKind}{x y:Int}{t:TypeId}{v:AV}(h:Rg op k x y=some v)(k':IntKind)(hk:k=k'∨BinOp.gh op=true) :
  ∃r,(binOp op t (.int k x) (.int k' y)).run P w=.ok r w∧aD w G L v r:=by
 cases op<;>simp only[Rg]at h
 case add=>injection h with h;subst h;exact⟨_,by have hk:=hk.resolve_right (by simp[BinOp.gh]);simp[binOp,hk,Op.intArith],.int _ _ _⟩
 case sub=>injection h with h;subst h;exact⟨_,by have hk:=hk.resolve_right (by simp[BinOp.gh]);simp[binOp,hk,Op.intArith],.int _ _ _⟩
 case mul=>injection h with h;subst h;exact⟨_,by have hk:=hk.resolve_right (by simp[BinOp.gh]);simp[binOp,hk,Op.intArith],.int _ _ _⟩
 case quo=>
  split at h
  ·cases h
  ·rename_i c;injection h with h;subst h;exact⟨_,by have hk:=hk.resolve_right (by simp[BinOp.gh]);simp[binOp,hk,Op.intDiv,c],.int _ _ _⟩
 case rem=>
  split at h
  ·cases h
  ·rename_i c;injection h with h;subst h;exact⟨_,by have hk:=hk.resolve_right (by simp[BinOp.gh]);simp[binOp,hk,Op.intDiv,c],.int _ _ _⟩
 case and=>injection h with h;subst h;exact⟨_,by have hk:=hk.resolve_right (by simp[BinOp.gh]);subst hk;simp only[binOp,ne_eq,not_true_eq_false,if_false,Op.intBits];rfl,.int _ _ _⟩
 case or=>injection h with h;subst h;exact⟨_,by have hk:=hk.resolve_right (by simp[BinOp.gh]);subst hk;simp only[binOp,ne_eq,not_true_eq_false,if_false,Op.intBits];rfl,.int _ _ _⟩
 case xor=>injection h with h;subst h;exact⟨_,by have hk:=hk.resolve_right (by simp[BinOp.gh]);subst hk;simp only[binOp,ne_eq,not_true_eq_false,if_false,Op.intBits];rfl,.int _ _ _⟩
 case andNot=>injection h with h;subst h;exact⟨_,by have hk:=hk.resolve_right (by simp[BinOp.gh]);subst hk;simp only[binOp,ne_eq,not_true_eq_false,if_false,Op.intBits];rfl,.int _ _ _⟩
 case eql=>injection h with h;subst h;exact⟨_,by have hk:=hk.resolve_right (by simp[BinOp.gh]);simp[binOp,hk,Op.intCmp],.bool _ _⟩
 case neq=>injection h with h;subst h;exact⟨_,by have hk:=hk.resolve_right (by simp[BinOp.gh]);simp[binOp,hk,Op.intCmp],.bool _ _⟩
 case lss=>injection h with h;subst h;exact⟨_,by have hk:=hk.resolve_right (by simp[BinOp.gh]);simp[binOp,hk,Op.intCmp],.bool _ _⟩
 case leq=>injection h with h;subst h;exact⟨_,by have hk:=hk.resolve_right (by simp[BinOp.gh]);simp[binOp,hk,Op.intCmp],.bool _ _⟩
 case gtr=>injection h with h;subst h;exact⟨_,by have hk:=hk.resolve_right (by simp[BinOp.gh]);simp[binOp,hk,Op.intCmp],.bool _ _⟩
 case geq=>injection h with h;subst h;exact⟨_,by have hk:=hk.resolve_right (by simp[BinOp.gh]);simp[binOp,hk,Op.intCmp],.bool _ _⟩
 case shl=>
  split at h
  ·cases h
  ·rename_i c;injection h with h;subst h;exact⟨_,by simp only[binOp,Op.shift,c,if_false];rfl,.int _ _ _⟩
 case shr=>
  split at h
  ·cases h
  ·rename_i c;injection h with h;subst h;exact⟨_,by simp only[binOp,Op.shift,c,if_false];rfl,.int _ _ _⟩
theorem Ov{op:BinOp}{x y:List UInt8}{t:TypeId}{v:AV}(h:CW op x y=some v) :
  ∃r,(binOp op t (.string ⟨x.toArray⟩) (.string ⟨y.toArray⟩)).run P w=.ok r w∧aD w G L v r:=by
 have hx:(⟨x.toArray⟩:ByteArray).toList=x:=ByteArray.toList_mk x;have hy:(⟨y.toArray⟩:ByteArray).toList=y:=ByteArray.toList_mk y;cases op<;>simp only[CW]at h<;>try (cases h;done)
 case add=>
  split at h
  ·rename_i c;injection h with h;subst h
   refine⟨.string ⟨(x++y).toArray⟩,?_,.str _ _⟩;have:=run_string_add_sum (P:=P) w ⟨x.toArray⟩ ⟨y.toArray⟩ (by unfold IP at c;simpa[ByteArray.size]using c);simp only[binOp,this];rw[ByteArray.mk_append_mk]
  ·cases h
 all_goals
  injection h with h;subst h
  exact⟨_,by simp only[binOp,Op.stringOp,hx,hy];rfl,.bool _ _⟩
theorem iE{op:BinOp}{t:TypeId}{x y:Operand}{u v:Value}(h:∀cs,u≠.agg cs)(h2:u≠.nilIface):(eqGuard op t x y u v).run P w=.ok () w:=by
 unfold eqGuard;cases u<;>first
  |exact absurd rfl h2
  |exact absurd rfl (h _)
  |(cases op<;>rfl)
theorem Vn{e:Env}{a:Act}(he:aF w G L e a){o:Oper}{b:BinOp}{t ty:TypeId}{x z:Operand}{x' z':Opd}
  (ho:o.op=.binOp b t x z ty) (hx:aS x=some x') (hz:aS z=some z') {v:AV} (hv:evP (.bin b x' z') e=some v):Yields P w G L a o v:=by
 have hr:=aG he hx;have hrz:=aG he hz;simp only[evP,Rh]at hv;split at hv
 ·rename_i k p k' q h1 h2;split at hv
  ·rename_i c;rw[h1]at hr;rw[h2]at hrz;obtain⟨r,k1,k2⟩:=Ou (P:=P) (w:=w) (G:=G) (L:=L) (t:=t) hv k' c;refine⟨r,?_,k2⟩;have hg:=iE (P:=P) (w:=w) (op:=b) (t:=t) (x:=x) (y:=z) (u:=.int k p) (v:=.int k' q) (λ_=>by simp) (by simp);simp only[execOp,ho,aU hr,aU hrz,afs,hg,Result.andThen,k1];rfl
  ·cases hv
 ·rename_i p q h1 h2;rw[h1]at hr;rw[h2]at hrz;obtain⟨r,k1,k2⟩:=Ov (P:=P) (w:=w) (G:=G) (L:=L) (t:=t) hv;refine⟨r,?_,k2⟩;have hg:=iE (P:=P) (w:=w) (op:=b) (t:=t) (x:=x) (y:=z) (u:=.string ⟨p.toArray⟩) (v:=.string ⟨q.toArray⟩) (λ_=>by simp) (by simp);simp only[execOp,ho,cJ hr,cJ hrz,afs,hg,Result.andThen,k1];rfl
 ·cases hv
theorem Vo{e:Env}{a:Act}(he:aF w G L e a){o:Oper}{ng:Bool}{t ty:TypeId}{x z:Operand}{x' z':Opd}
  (ho:o.op=.binOp (if ng then .neq else .eql) t x z ty) (hx:aS x=some x') (hz:aS z=some z') (hu:P.underlying t=some .bool) {v:AV} (hv:evP (.eqB ng x' z') e=some v):Yields P w G L a o v:=by
 have hr:=aG he hx;have hrz:=aG he hz;simp only[evP]at hv;split at hv
 ·rename_i p q h1 h2;injection hv with hv;subst hv
  rw[h1]at hr;rw[h2]at hrz;refine⟨_,?_,.bool _ _⟩;have hg:∀op,(eqGuard op t x z (.bool p) (.bool q)).run P w=.ok () w:=λop=>iE (λ_=>by simp) (by simp)
  cases ng
  ·simp only[execOp,ho,cm hr,cm hrz,afs,hg,Result.andThen,afA,if_false,run_eql_bool w t p q hu];rfl
  ·simp only[execOp,ho,cm hr,cm hrz,afs,hg,Result.andThen,if_true,run_neq_bool w t p q hu];rfl
 ·cases hv
theorem acM{e:Env}{a:Act}(he:aF w G L e a){o:Oper}{t:TypeId}{x:Operand}{x':Opd}(ho:o.op=.unOp .not t x)(hx:aS x=some x'){v:AV}
  (hv:evP (.not x') e=some v):Yields P w G L a o v:=by
 have hr:=aG he hx;simp only[evP]at hv;split at hv
 ·rename_i b h1;injection hv with hv;subst hv
  rw[h1]at hr;exact⟨_,by simp only[execOp,ho,cm hr,Op.unary];rfl,.bool _ _⟩
 ·cases hv
theorem acN{e:Env}{a:Act}(he:aF w G L e a){o:Oper}{t:TypeId}{x:Operand}{x':Opd}(ho:o.op=.unOp .neg t x)(hx:aS x=some x'){v:AV}
  (hv:evP (.neg x') e=some v):Yields P w G L a o v:=by
 have hr:=aG he hx;simp only[evP]at hv;split at hv
 ·rename_i k n h1;injection hv with hv;subst hv
  rw[h1]at hr;exact⟨_,by simp only[execOp,ho,aU hr,Op.unary,Op.intArith];rfl,.int _ _ _⟩
 ·cases hv
theorem acO{e:Env}{a:Act}(he:aF w G L e a){o:Oper}{s d:TypeId}{x:Operand}{x':Opd}{k0 k:IntKind}(ho:o.op=.convert s d x)(hx:aS x=some x')
  (hs:P.underlying s=some (.int k0)) (hd:P.underlying d=some (.int k)) {v:AV} (hv:evP (.cvI k x') e=some v):Yields P w G L a o v:=by
 have hr:=aG he hx;simp only[evP]at hv;split at hv
 ·rename_i k1 n h1;injection hv with hv;subst hv
  rw[h1]at hr;exact⟨_,by simp only[execOp,ho,aU hr,convert,afs,run_underlying hs,run_underlying hd,Result.andThen,Conv.intToInt];rfl,.int _ _ _⟩
 ·cases hv
theorem acP{e:Env}{a:Act}(he:aF w G L e a){o:Oper}{s d:TypeId}{x:Operand}{x':Opd}(ho:o.op=.convert s d x)(hx:aS x=some x')
  (hs:P.underlying s=some .string) (hd:P.underlying d=some .string) {v:AV} (hv:evP (.cvS x') e=some v):Yields P w G L a o v:=by
 have hr:=aG he hx;simp only[evP]at hv;split at hv
 ·rename_i n h1;injection hv with hv;subst hv
  rw[h1]at hr;exact⟨_,by simp only[execOp,ho,cJ hr,convert,afs,run_underlying hs,run_underlying hd,Result.andThen];rfl,.str _ _⟩
 ·cases hv
theorem acQ{e:Env}{a:Act}(he:aF w G L e a){o:Oper}{t:TypeId}{x:Operand}{x':Opd}(ho:o.op=.makeInterface t x)(hx:aS x=some x'){d:TypeDesc}
  (hu:P.underlying t=some d) (hni:∀ms,d≠.interface ms):Yields P w G L a o (.iface t (x'.ev e)):=by
 refine⟨.iface t (a.eval x),?_,.iface _ _ _ _ (aG he hx)⟩;simp only[execOp,ho,Instr.makeInterface,afs,run_underlying hu,Result.andThen];cases d<;>first|rfl|exact absurd rfl (hni _)
theorem acR{e:Env}{a:Act}(he:aF w G L e a){o:Oper}{f:Fn}{x z:Array Operand}{x' z':List Opd}(ho:o.op=.makeFunc f x z)(hx:gK x.toList=some x')
  (hz:gK z.toList=some z'):Yields P w G L a o (.fn f (x'.map (·.ev e)) (z'.map (·.ev e))):=by
 refine⟨.func f (x.map a.eval) (z.map a.eval),by simp[execOp,ho,Instr.makeFunc],?_⟩;obtain⟨h1,h2⟩:=oF he hx;obtain⟨k1,k2⟩:=oF he hz;refine .fn _ _ _ _ _ _ (by simp[h1]) (by simp[k1]) (λi hi=>?_) λi hi=>?_
 ·have:=h2 i (by simpa using hi);have e1:(x.map a.eval).getD i undef=(x.toList.map a.eval).getD i undef:=by simp[afx]
  rw[e1];exact this
 ·have:=k2 i (by simpa using hi);have e1:(z.map a.eval).getD i undef=(z.toList.map a.eval).getD i undef:=by simp[afx]
  rw[e1];exact this
theorem zk{cs:List AV}{x:Value}(h:aD w G L (.tup cs) x):∃vs:Array Value,x=.tuple vs∧vs.size=cs.length∧(∀i,i<cs.length->aD w G L (cs.getD i .top) (vs.getD i undef)):=by
 cases h with
 |tup L cs vs hl h=>exact⟨vs,rfl,hl,h⟩
theorem acZ{e:Env}{a:Act}(he:aF w G L e a){o:Oper}{x:Operand}{x':Opd}{i:Nat}(ho:o.op=.extract x i)(hx:aS x=some x'){v:AV}
  (hv:evP (.ext x' i) e=some v):Yields P w G L a o v:=by
 have hr:=aG he hx;simp only[evP]at hv;split at hv
 ·rename_i vs h1;rw[h1]at hr;obtain⟨us,hxv,h2,h3⟩:=zk hr;have hlt:=(aft.1 hv).1;have hu:us[i]?=some (us.getD i undef):=by rw[afx,afW (by omega)];rfl
  have h4:=h3 i hlt;rw[show vs.getD i .top=v by simp[afk,hv]]at h4;exact⟨_,by simp only[execOp,ho,hxv,Instr.extract,hu];rfl,h4⟩
 ·cases hv
theorem GI{name:String}{t:TypeId}(h:(rowOf P name t).isSome=true)(n:Nat)(v:Value)(w:World):(nilAhead (n+1) t v name).run P w=.ok (some false) w:=by
 obtain⟨g,h⟩:=agN.1 h;unfold rowOf at h;split at h
 ·rename_i i d hi hd;split at h
  ·cases h
  ·rename_i hnp;split at h
   ·rename_i m hm;split at h
    ·rename_i My;split at h
     ·rename_i g' hf;have e1:(typeInfo t).run P w=.ok i w:=by simp[typeInfo,hi]
      unfold nilAhead;simp only[afs,e1,afI,hm,My,Array.toList_empty,followBlind,afV,hf,run_underlying hd];cases d<;>first|(exact absurd rfl (hnp _))|rfl
     ·cases h
    ·cases h
   ·cases h
 ·cases h
theorem RG{e:Env}{a:Act}(he:aF w G L e a){o:Oper}{x:Operand}{x':Opd}(ho:o.op=.nilCheck x)(hx:aS x=some x'){nm:String}{ts:List TypeId}(ht:∀t∈ts,(rowOf P nm t).isSome=true){v:AV}
  (hv:evP (.Kk nm ts x') e=some v):Yields P w G L a o v:=by
 have hr:=aG he hx;simp only[evP]at hv;split at hv
 ·rename_i m t u r c h1;split at hv
  ·rename_i hc;injection hv with hv;subst hv
   obtain⟨rfl,hc⟩:=hc;rw[h1]at hr;have hk:=ht t (by simpa using hc);refine⟨a.eval x,?_,hr⟩;simp only[execOp,ho];generalize a.eval x=xv at hr;cases hr with
   |fn _ _ _ _ va vb hla hlb ha hb=>
    have h0:=ha 0 (by simp);simp only[af6]at h0;generalize hy:va.getD 0 undef=y at h0;cases h0 with
    |iface _ _ _ z _=>
     have hsz:0<va.size:=by rw[hla];simp
     have hg:va[0]?=some (.iface t z):=by
      rw[afW hsz];simpa[Array.getD,hsz]using hy
     have hn:=λ(n:Nat)=>GI hk n z w
     have h4:(nilAhead (P.types.size+Made.depth) t z m).run P w=.ok (some false) w:=hn (P.types.size+(Made.depth-1));simp only[hg,afs,run_program,afI,h4];rfl
  ·cases hv
 ·cases hv
theorem Uz{e:Env}{a:Act}(he:aF w G L e a){o:Oper}{x:Operand}{x':Opd}(ho:o.op=.nilCheck x)(hx:aS x=some x'){v:AV}
  (hv:evP (.GP x') e=some v):Yields P w G L a o v:=by
 have hr:=aG he hx;have key:aD w G L v (a.eval x)->(∀p,a.eval x=.pointer p->p.isSome)->(a.eval x≠.nilIface)->(a.eval x≠.nilFunc) ->
   (∀n f c,a.eval x≠.func (.method n) f c)->Yields P w G L a o v:=λhv h1 h2 h3 h4=>by
  refine⟨a.eval x,?_,hv⟩;simp only[execOp,ho];generalize a.eval x=xv at *
  cases xv with
  |pointer p=>
   cases p with
   |none=>have:=h1 none rfl;cases this
   |some p=>rfl
  |nilIface=>exact absurd rfl h2
  |nilFunc=>exact absurd rfl h3
  |func f c d=>
   cases f with
   |method n=>exact absurd rfl (h4 n c d)
   |_=>rfl
  |_=>rfl
 simp only[evP]at hv;split at hv
 ·rename_i la k h1;injection hv with hv;subst hv
  rw[h1]at hr;generalize hg:a.eval x=xv at hr;cases hr with
  |ptr L la k b hLa hm h=>exact key (by rw[hg];exact .ptr _ la k b hLa hm h) (λp hp=>by rw[hg]at hp;injection hp with hp;rw[<-hp];rfl) (by rw[hg];simp) (by rw[hg];simp) (by rw[hg];simp)
 ·rename_i u k h1;injection hv with hv;subst hv
  rw[h1]at hr;generalize hg:a.eval x=xv at hr;cases hr with
  |eF L u k b of vf hc hv=>exact key (by rw[hg];exact .eF _ u k b of vf hc hv) (λp hp=>by rw[hg]at hp;injection hp with hp;rw[<-hp];rfl) (by rw[hg];simp) (by rw[hg];simp) (by rw[hg];simp)
 ·rename_i la m sz i o h1;injection hv with hv;subst hv
  rw[h1]at hr;generalize hg:a.eval x=xv at hr;cases hr with
  |dN L a n sz i o m b hLa hm hle h=>exact key (by rw[hg];exact .dN _ _ _ _ _ _ _ _ hLa hm hle h) (λp hp=>by rw[hg]at hp;injection hp with hp;rw[<-hp];rfl) (by rw[hg];simp) (by rw[hg];simp) (by rw[hg];simp)
 ·rename_i f y z h1;injection hv with hv;subst hv
  rw[h1]at hr;generalize hg:a.eval x=xv at hr;cases hr with
  |fn L f y z va vb hla hlb ha hb=>exact key (by rw[hg];exact .fn _ _ y z va vb hla hlb ha hb) (λp hp=>by rw[hg]at hp;cases hp) (by rw[hg];simp) (by rw[hg];simp) (by rw[hg];simp)
 ·cases hv
def gQ:NK->Value
 |.slice=>.slice none 0 0
 |.ptr=>.pointer none
 |.func=>.nilFunc
 |.iface=>.nilIface
 |.map=>.map none
def Ji:NK->Bool->Value->Prop
 |.slice,b,x=>(b=true∧x=.slice none 0 0)∨(b=false∧∃p n c,x=.slice (some p) n c)
 |.ptr,b,x=>(b=true∧x=.pointer none)∨(b=false∧∃p,x=.pointer (some p))
 |.func,b,x=>(b=true∧x=.nilFunc)∨(b=false∧∃f c d,x=.func f c d)
 |.iface,b,x=>(b=true∧x=.nilIface)∨(b=false∧∃t v,x=.iface t v)
 |.map,b,x=>(b=true∧x=.map none)∨(b=false∧∃r,x=.map (some r))
def descOf:NK->TypeDesc->Prop
 |.slice,d=>∃e,d=.slice e
 |.ptr,d=>∃e,d=.pointer e
 |.func,d=>∃p r v,d=.func p r v
 |.iface,d=>∃m,d=.interface m
 |.map,d=>∃k e,d=.map k e
theorem DF{d:TypeDesc}{z:Operand}{k:NK}(h:Be d z=some k):descOf k d∧(∃v,z=.const v)∧∀a:Act,a.eval z=gQ k:=by
 unfold Be at h;split at h
 ·injection h with h;subst h;exact⟨⟨_,rfl⟩,⟨_,rfl⟩,λ_=>rfl⟩
 ·injection h with h;subst h;exact⟨⟨_,rfl⟩,⟨_,rfl⟩,λ_=>rfl⟩
 ·injection h with h;subst h;exact⟨⟨_,_,_,rfl⟩,⟨_,rfl⟩,λ_=>rfl⟩
 ·injection h with h;subst h;exact⟨⟨_,rfl⟩,⟨_,rfl⟩,λ_=>rfl⟩
 ·injection h with h;subst h;exact⟨⟨_,_,rfl⟩,⟨_,rfl⟩,λ_=>rfl⟩
 ·cases h
theorem RU{k:NK}{v:AV}{x:Value}{b:Bool}(h:aD w G L v x)(hb:isNil k v=some b):Ji k b x:=by
 cases k<;>cases h<;>simp only[isNil]at hb<;>try (cases hb;done)
 case slice.ay=>injection hb with hb;subst hb;exact .inl ⟨rfl,rfl⟩
 case slice.lst es b off c sz vf hle hs hc hv=>
  cases es with
  |nil=>simp at hb
  |cons u r=>simp only[fS]at hb;subst hb;exact .inr ⟨rfl,_,_,_,rfl⟩
 case slice.own a n m hLa hm hle hov h=>
  cases n with
  |zero=>simp at hb
  |succ n=>
   simp only[fS]at hb;subst hb;rcases hov with⟨h0,_⟩|⟨b',c',h0⟩
   ·omega
   ·exact .inr ⟨rfl,_,_,_,h0⟩
 case ptr.ptr=>injection hb with hb;subst hb;exact .inr ⟨rfl,_,rfl⟩
 case ptr.dN=>injection hb with hb;subst hb;exact .inr ⟨rfl,_,rfl⟩
 case ptr.eF=>injection hb with hb;subst hb;exact .inr ⟨rfl,_,rfl⟩
 case ptr.mI=>injection hb with hb;subst hb;exact .inl ⟨rfl,rfl⟩
 case func.fn=>injection hb with hb;subst hb;exact .inr ⟨rfl,_,_,_,rfl⟩
 case func.iP=>injection hb with hb;subst hb;exact .inl ⟨rfl,rfl⟩
 case iface.iface=>injection hb with hb;subst hb;exact .inr ⟨rfl,_,_,rfl⟩
 case iface.jg=>injection hb with hb;subst hb;exact .inl ⟨rfl,rfl⟩
 case map.mp=>injection hb with hb;subst hb;exact .inr ⟨rfl,_,rfl⟩
 case map.iM=>injection hb with hb;subst hb;exact .inl ⟨rfl,rfl⟩
theorem oN{t:TypeId}{x y:Value}{b:Bool}(h:∀d:Nat,(Op.equalIn (d+1) t x y).run P w=.ok b w):(Op.equal t x y).run P w=.ok b w:=h 9999
theorem DG{k:NK}{d:TypeDesc}{x:Value}{b:Bool}{t:TypeId}(hk:descOf k d)(hu:P.underlying t=some d)(h:Ji k b x):(Op.equal t x (gQ k)).run P w=.ok b w:=by
 refine oN λn=>?_
 cases k
 case slice=>
  obtain⟨e,rfl⟩:=hk;rcases h with⟨rfl,rfl⟩|⟨rfl,p,m,c,rfl⟩<;>simp[Op.equalIn,run_underlying hu,gQ]
 case ptr=>
  obtain⟨e,rfl⟩:=hk;rcases h with⟨rfl,rfl⟩|⟨rfl,p,rfl⟩<;>simp[Op.equalIn,run_underlying hu,gQ]
 case func=>
  obtain⟨_,_,_,rfl⟩:=hk;rcases h with⟨rfl,rfl⟩|⟨rfl,p,m,c,rfl⟩<;>simp[Op.equalIn,run_underlying hu,gQ]
 case iface=>
  obtain⟨_,rfl⟩:=hk;rcases h with⟨rfl,rfl⟩|⟨rfl,p,m,rfl⟩<;>simp[Op.equalIn,run_underlying hu,gQ]
 case map=>
  obtain⟨_,_,rfl⟩:=hk;rcases h with⟨rfl,rfl⟩|⟨rfl,p,rfl⟩<;>simp[Op.equalIn,run_underlying hu,gQ]
theorem DI{k:NK}{x:Value}{b:Bool}{t:TypeId}(h:Ji k b x)(y:Operand)(z:Value)(op:BinOp):(eqGuard op t y (.const z) x (gQ k)).run P w=.ok () w:=by
 cases k
 case slice=>rcases h with⟨rfl,rfl⟩|⟨rfl,p,m,c,rfl⟩<;>(cases op<;>rfl)
 case ptr=>rcases h with⟨rfl,rfl⟩|⟨rfl,p,rfl⟩<;>(cases op<;>rfl)
 case func=>rcases h with⟨rfl,rfl⟩|⟨rfl,p,m,c,rfl⟩<;>(cases op<;>rfl)
 case iface=>
  rcases h with⟨rfl,rfl⟩|⟨rfl,p,m,rfl⟩
  ·cases op<;>first|rfl|simp[gQ,eqGuard]
  ·cases op<;>rfl
 case map=>rcases h with⟨rfl,rfl⟩|⟨rfl,p,rfl⟩<;>(cases op<;>rfl)
theorem UG{k:NK}{x:Value}{b:Bool}{t:TypeId}(h:Ji k b x) :
  binOp .eql t x (gQ k)=(do pure (.bool (<- Op.equal t x (gQ k))))∧binOp .neq t x (gQ k)=(do pure (.bool (!(<- Op.equal t x (gQ k))))):=by
 cases k
 case slice=>rcases h with⟨rfl,rfl⟩|⟨rfl,p,m,c,rfl⟩<;>exact⟨rfl,rfl⟩
 case ptr=>rcases h with⟨rfl,rfl⟩|⟨rfl,p,rfl⟩<;>exact⟨rfl,rfl⟩
 case func=>rcases h with⟨rfl,rfl⟩|⟨rfl,p,m,c,rfl⟩<;>exact⟨rfl,rfl⟩
 case iface=>rcases h with⟨rfl,rfl⟩|⟨rfl,p,m,rfl⟩<;>exact⟨rfl,rfl⟩
 case map=>rcases h with⟨rfl,rfl⟩|⟨rfl,p,rfl⟩<;>exact⟨rfl,rfl⟩
theorem KM{k:NK}{d:TypeDesc}{x:Value}{b:Bool}{t:TypeId}(hk:descOf k d)(hu:P.underlying t=some d)(h:Ji k b x)(y:Operand)(z:Value)(op:BinOp) :
  (binOp .eql t x (gQ k)).run P w=.ok (.bool b) w∧(binOp .neq t x (gQ k)).run P w=.ok (.bool (!b)) w∧(eqGuard op t y (.const z) x (gQ k)).run P w=.ok () w:=by
 have h1:=DG (P:=P) (w:=w) hk hu h;obtain⟨h2,h3⟩:=UG (t:=t) h;refine⟨?_,?_,DI h y z op⟩
 ·rw[h2];simp[h1]
 ·rw[h3];simp[h1]
theorem Vp{e:Env}{a:Act}(he:aF w G L e a){o:Oper}{ng:Bool}{k:NK}{d:TypeDesc}{t ty:TypeId}{x z:Operand}{x':Opd}
  (ho:o.op=.binOp (if ng then .neq else .eql) t x z ty) (hx:aS x=some x') (hk:Be d z=some k) (hu:P.underlying t=some d) {v:AV} (hv:evP (.eqN k ng x') e=some v):Yields P w G L a o v:=by
 have hr:=aG he hx;simp only[evP]at hv;split at hv
 ·rename_i b h1;injection hv with hv;subst hv
  obtain⟨hd,⟨zv,rfl⟩,hz⟩:=DF hk;have hf:=RU hr h1;refine⟨_,?_,.bool _ _⟩;have h2:=λop=>KM (P:=P) (w:=w) hd hu hf x zv op
  cases ng
  ·simp only[execOp,ho,hz,afs,(h2 .eql).2.2,(h2 .eql).1,Result.andThen,afA,if_false];rfl
  ·simp only[execOp,ho,hz,afs,(h2 .neq).2.2,(h2 .neq).2.1,Result.andThen,if_true];rfl
 ·cases hv
theorem rZ{e:Env}{a:Act}(he:aF w G L e a){x:Option Operand}{y:Option Opd}(h:jt x=some y) :
  (x=none∧y=none)∨∃x0 y0,x=some x0∧y=some y0∧aD w G L (y0.ev e) (a.eval x0):=by
 cases x with
 |none=>simp only[jt,fS]at h;exact .inl ⟨rfl,h.symm⟩
 |some x0=>
  simp only[jt]at h;cases hx:aS x0 with
  |none=>simp[hx]at h
  |some y0=>
   simp only[hx,fS]at h;exact .inr ⟨x0,y0,rfl,h.symm,aG he hx⟩
theorem rY{e:Env}{a:Act}(he:aF w G L e a){lo hi:Option Operand}{lo' hi':Option Opd}(hl:jt lo=some lo')(hh:jt hi=some hi'){n cap l r:Nat}{sl:Bool}
  (hb:Kl n (oev e lo') (oev e hi')=some (l,r)) (hn:n<=cap) (hcap:sl=false->cap=n) :
  (Instr.sliceBounds sl n cap (lo.map a.eval) (hi.map a.eval) none).run P w=.ok (l,r,cap) w∧l<=r∧r<=n:=by
 unfold Kl at hb;cases hH:bHi n (oev e hi') with
 |none=>simp[hH]at hb
 |some h=>
  simp only[hH]at hb;cases hL:bLo h (oev e lo') with
  |none=>simp[hL]at hb
  |some l0=>
   simp only[hL,fS,afn]at hb;obtain⟨rfl,rfl⟩:=hb;have h1:h<=n∧((hi.map a.eval=none∧h=n)∨∃k q,hi.map a.eval=some (.int k q)∧0<=q∧q<=n∧q.toNat=h):=by
    rcases rZ he hh with⟨rfl,rfl⟩|⟨x0,y0,rfl,rfl,hr⟩
    ·simp only[oev,bHi,fS]at hH;exact⟨by omega,.inl ⟨rfl,hH.symm⟩⟩
    ·simp only[oev]at hH;unfold bHi at hH;split at hH
     ·rename_i hq;cases hq
     ·rename_i k q hq;injection hq with hq
      rw[hq]at hr;split at hH
      ·rename_i c;injection hH with hH
       exact⟨by omega,.inr ⟨k,q,by simp[aU hr],c.1,c.2,hH⟩⟩
      ·cases hH
     ·cases hH
   have h2:l0<=h∧((lo.map a.eval=none∧l0=0)∨∃k q,lo.map a.eval=some (.int k q)∧0<=q∧q<=h∧q.toNat=l0):=by
    rcases rZ he hl with⟨rfl,rfl⟩|⟨x0,y0,rfl,rfl,hr⟩
    ·simp only[oev,bLo,fS]at hL;exact⟨by omega,.inl ⟨rfl,hL.symm⟩⟩
    ·simp only[oev]at hL;unfold bLo at hL;split at hL
     ·rename_i hq;cases hq
     ·rename_i k q hq;injection hq with hq
      rw[hq]at hr;split at hL
      ·rename_i c;injection hL with hL
       exact⟨by omega,.inr ⟨k,q,by simp[aU hr],c.1,c.2,hL⟩⟩
      ·cases hL
     ·cases hL
   refine⟨?_,h2.1,h1.1⟩;rcases h1.2 with⟨e1,rfl⟩|⟨k,q,e1,q0,q1,rfl⟩<;>rcases h2.2 with⟨e2,rfl⟩|⟨k',q',e2,p0,p1,rfl⟩
   ·simp[Instr.sliceBounds,e1,e2]
   ·simp[Instr.sliceBounds,e1,e2,run_sliceBound (P:=P) w k' q' _ _ p0 p1]
   ·have h3:=λcode=>run_sliceBound (P:=P) w k q cap code q0 (by omega)
    simp[Instr.sliceBounds,e1,e2,h3]
   ·have h3:=λcode=>run_sliceBound (P:=P) w k q cap code q0 (by omega)
    have h4:=λcode=>run_sliceBound (P:=P) w k' q' q.toNat code p0 p1
    simp[Instr.sliceBounds,e1,e2,h3,h4]
theorem GJ(s:List UInt8)(l r:Nat):(⟨s.toArray⟩:ByteArray).extract l r=⟨((s.take r).drop l).toArray⟩:=by
 apply ByteArray.ext;rw[ByteArray.data_extract];simp[List.extract_eq_take_drop,List.drop_take]
theorem acS{e:Env}{a:Act}(he:aF w G L e a){o:Oper}{t:TypeId}{x:Operand}{y:Opd}{lo hi:Option Operand}{lo' hi':Option Opd}
  (ho:o.op=.slice t x lo hi none) (hx:aS x=some y) (hl:jt lo=some lo') (hh:jt hi=some hi') (hu:P.underlying t=some .string) {v:AV}
  (hv:evP (.slS y lo' hi') e=some v):Yields P w G L a o v:=by
 have hr:=aG he hx;simp only[evP]at hv;split at hv
 ·rename_i s hs;split at hv
  ·rename_i l r hb;injection hv with hv;subst hv
   rw[hs]at hr;obtain⟨h1,h2,h3⟩:=rY (P:=P) he hl hh (sl:=false) hb (afm _) (λ_=>rfl);refine⟨.string ⟨((s.take r).drop l).toArray⟩,?_,.str _ _⟩;have hsz:(⟨s.toArray⟩:ByteArray).size=s.length:=by simp[ByteArray.size]
   rw[<-GJ];simp[execOp,ho,cJ hr,Instr.sliceAt,Instr.slice,run_underlying hu,hsz,h1]
  ·cases hv
 ·cases hv
theorem Ak{v:AV}{x:Value}{n:Nat}(h:aD w G L v x)(hn:rC v=some n):∃p k,x=.slice p n k:=by
 cases h<;>simp only[rC]at hn<;>try (cases hn;done)
 case ay=>injection hn with hn;subst hn;exact⟨_,_,rfl⟩
 case emp=>injection hn with hn;subst hn;exact⟨_,_,rfl⟩
 case mU=>injection hn with hn;subst hn;exact⟨_,_,rfl⟩
 case lst=>injection hn with hn;subst hn;exact⟨_,_,rfl⟩
 case own ho _=>
  injection hn with hn;subst hn
  rcases ho with⟨h0,rfl⟩|⟨b,c,rfl⟩
  ·subst h0;exact⟨_,_,rfl⟩
  ·exact⟨_,_,rfl⟩
theorem Vs{e:Env}{a:Act}(he:aF w G L e a){o:Oper}{t:TypeId}{x:Operand}{y:Opd}{c:Call}{sl:Bool}(ho:o.op=.call c)(hc:c.callee=.builtin .len)(ha:c.args.toList=[x])
  (hx:aS x=some y) (ht:c.argTypes[0]?=some t) (hu:(sl=false∧P.underlying t=some .string)∨(sl=true∧∃el,P.underlying t=some (.slice el))) {v:AV} (hv:evP (.len sl y) e=some v) :
  Yields P w G L a o v:=by
 have hr:=aG he hx;have hargs:c.args=#[x]:=by rw[<-Array.toArray_toList (xs:=c.args),ha]
 rcases hu with⟨rfl,hu⟩|⟨rfl,el,hu⟩
 ·simp only[evP,afA,if_false]at hv;split at hv
  ·rename_i s hs;injection hv with hv;subst hv
   rw[hs]at hr;refine⟨_,?_,.int _ _ _⟩;have hsz:(⟨s.toArray⟩:ByteArray).size=s.length:=by simp[ByteArray.size]
   simp[execOp,ho,resolve,hc,hargs,invoke,builtin,Builtin.len_,ht,cJ hr,run_underlying hu,goInt,hsz]
  ·cases hv
 ·simp only[evP,if_true]at hv;split at hv
  ·rename_i n hn;injection hv with hv;subst hv
   obtain⟨p,k,hxv⟩:=Ak hr hn;refine⟨_,?_,.int _ _ _⟩;simp[execOp,ho,resolve,hc,hargs,invoke,builtin,Builtin.len_,ht,hxv,run_underlying hu,goInt]
  ·cases hv
theorem RV{mx:Bool}:∀(l:List AV) (vs:List Value) (v:AV) (x:Value) (r:AV),l.length=vs.length->(∀i,i<l.length->aD w G L (l.getD i .top) (vs.getD i undef))->aD w G L v x ->
  (∃k n,v=.int k n)->iw mx v l=some r->∃y,(vs.foldlM (if mx then Builtin.max2 else Builtin.min2) x).run P w=.ok y w∧aD w G L r y
 | [],vs,v,x,r,hl,h,hv,hk,hr=>by
  have:vs=[]:=afJ (by simpa using hl.symm);subst this;simp only[iw,fS]at hr;subst hr;exact⟨x,rfl,hv⟩
 |u::l,vs,v,x,r,hl,h,hv,⟨k,n,hk⟩,hr=>by
  cases vs with
  |nil=>simp at hl
  |cons z vs=>
   subst hk;have hz:=h 0 (by simp);simp only[af6]at hz;cases u<;>simp only[iw]at hr<;>try (cases hr;done)
   rename_i k' m;have hx:=aU hv;have hz':=aU hz;subst hx;subst hz';obtain⟨y,h1,h2⟩:=RV l vs _ (.int k (if mx then (if m > n then m else n) else (if m<n then m else n))) r (by simpa using hl) (λi hi=>by simpa using h (i+1) (by simpa using hi)) (.int _ _ _) ⟨_,_,rfl⟩ hr;refine⟨y,?_,h2⟩;rw[List.foldlM_cons];cases mx
   ·simpa[Builtin.min2]using h1
   ·simpa[Builtin.max2]using h1
theorem ac0{e:Env}{a:Act}(he:aF w G L e a){o:Oper}{xs:List Opd}{c:Call}{mx:Bool}(ho:o.op=.call c)(hc:c.callee=.builtin (if mx then .max else .min))
  (hx:gK c.args.toList=some xs) {v:AV} (hv:evP (.mm mx xs) e=some v):Yields P w G L a o v:=by
 obtain⟨h1,h2⟩:=oF he hx;simp only[evP]at hv;split at hv
 ·rename_i k n r hq;cases hargs:c.args.toList.map a.eval with
  |nil=>
   have e1:(c.args.toList.map a.eval).length=xs.length:=by simp[h1]
   have e2:(List.map (Opd.ev e) xs).length=xs.length:=by simp
   rw[hargs]at e1;rw[hq]at e2;simp at e1 e2;omega
  |cons z vs=>
   have e1:(c.args.toList.map a.eval).length=xs.length:=by simp[h1]
   have e2:(List.map (Opd.ev e) xs).length=xs.length:=by simp
   rw[hargs]at e1 h2;rw[hq]at e2;rw[show xs.map (·.ev e)=List.map (Opd.ev e) xs from rfl,hq]at h2;simp only[Io]at e1 e2;obtain⟨y,k1,k2⟩:=RV (P:=P) (mx:=mx) r vs (.int k n) z v (by omega) (λi hi=>by simpa using h2 (i+1) (by omega)) (by simpa using h2 0 (by omega)) ⟨_,_,rfl⟩ hv;refine⟨y,?_,k2⟩;cases mx
   ·simp only[afA,if_false]at hc k1;simp[execOp,ho,resolve,hc,invoke,builtin,Builtin.min_,hargs,k1]
   ·simp only[if_true]at hc k1;simp[execOp,ho,resolve,hc,invoke,builtin,Builtin.max_,hargs,k1]
 ·cases hv
theorem acY{e:Env}{a:Act}(he:aF w G L e a){o:Oper}{x:Operand}{y:Opd}{xt t:TypeId}{ok:Bool}{z:AV}{d:TypeDesc}(ho:o.op=.typeAssert x xt t ok)(hx:aS x=some y)
  (hu:P.underlying t=some d) (hni:∀ms,d≠.interface ms) (hz:zeroOf P t=some z) {v:AV} (hv:evP (.tyA t ok z y) e=some v):Yields P w G L a o v:=by
 have hr:=aG he hx;obtain⟨i,zv,hi,hzv,hzz,hzl⟩:=cY hz;have hzr:aD w G L z zv:=by rw[hzz];exact fD zv
 have hZ:(zeroValue t).run P w=.ok zv w:=by simp[zeroValue,typeInfo,hi,hzv]
 have two:∀{u:AV} {q:Value} {b:Bool},aD w G L u q->aD w G L (.tup [u,.bool b]) (.tuple #[q,.bool b]):=λh=>by
  refine .tup _ _ _ rfl λi hi=>?_
  match i,hi with
  | 0,_=>simpa using h
  | 1,_=>exact .bool _ _
 simp only[evP]at hv;split at hv
 ·rename_i u q hq;rw[hq]at hr;generalize hg:a.eval x=xv at hr;cases hr with
  |iface L u q qv hqv=>
   have hrun:(Instr.typeAssert (.iface u qv) xt t ok).run P w=if u=t then .ok (if ok then .tuple #[qv,.bool true] else qv) w else if ok then .ok (.tuple #[zv,.bool false]) w else
     (Instr.typeAssert (.iface u qv) xt t ok).run P w:=by
    by_cases c:u=t
    ·subst c;unfold Instr.typeAssert;simp only[afs,run_underlying hu,Result.andThen,if_true];cases d<;>first|exact absurd rfl (hni _)|rfl
    ·rw[if_neg c];cases ok
     ·simp
     ·unfold Instr.typeAssert;simp only[afs,run_underlying hu,Result.andThen,if_true];cases d<;>first|exact absurd rfl (hni _)|(simp only[c,if_false,afs,hZ,Result.andThen];rfl)
   split at hv
   ·rename_i c;rw[if_pos c]at hrun;injection hv with hv;subst hv
    refine⟨_,by simp only[execOp,ho,hg,afs,hrun,Result.andThen];rfl,?_⟩;cases ok
    ·exact hqv
    ·exact two hqv
   ·rename_i c;rw[if_neg c]at hrun;split at hv
    ·rename_i c2;rw[if_pos c2]at hrun;injection hv with hv;subst hv
     exact⟨_,by simp only[execOp,ho,hg,afs,hrun,Result.andThen];rfl,two hzr⟩
    ·cases hv
 ·rename_i hq;rw[hq]at hr;generalize hg:a.eval x=xv at hr;cases hr with
  |jg=>
   split at hv
   ·rename_i c2;subst c2;injection hv with hv;subst hv
    have hrun:(Instr.typeAssert .nilIface xt t true).run P w=.ok (.tuple #[zv,.bool false]) w:=by
     unfold Instr.typeAssert;simp only[afs,run_underlying hu,Result.andThen,if_true];cases d<;>first|exact absurd rfl (hni _)|(simp only[hZ];rfl)
    exact⟨_,by simp only[execOp,ho,hg,afs,hrun,Result.andThen];rfl,two hzr⟩
   ·cases hv
 ·cases hv
theorem oK{a:Loc}{o:Nat}{x:Value}(h:aD w G L (.ptr a o) x):∃b,G.blk a=some b∧G.len a=none∧L a∧x=.pointer (some ⟨b,o,none⟩):=by
 cases h with
 |ptr _ _ _ b hL hm hb=>exact⟨b,hb,hm,hL,rfl⟩
theorem Vq{e:Env}{a:Act}(he:aF w G L e a){o:Oper}{ng:Bool}{t te ty:TypeId}{j:TypeInfo}{x y:Operand}{x' y':Opd}
  (ho:o.op=.binOp (if ng then .neq else .eql) t x y ty) (hx:aS x=some x') (hy:aS y=some y') (hu:P.underlying t=some (.pointer te)) (hi:P.info? te=some j)
  {v:AV} (hv:evP (.eqP ng x' y') e=some v):Yields P w G L a o v:=by
 simp only[evP]at hv;split at hv
 ·rename_i la o1 lb o2 h1 h2;split at hv
  ·rename_i hc;obtain⟨rfl,rfl⟩:=hc;injection hv with hv
   subst hv;have r1:=aG he hx;have r2:=aG he hy;rw[h1]at r1;rw[h2]at r2;obtain⟨b,q1,_,_,q2⟩:=oK r1;obtain⟨b',q3,_,_,q4⟩:=oK r2;rw[q1]at q3;injection q3 with q3
   subst q3;have key:∀d:Nat,(Op.equalIn (d+1) t (.pointer (some ⟨b,o1,none⟩)) (.pointer (some ⟨b,o1,none⟩))).run P w=.ok true w:=λd=>by
    simp[Op.equalIn,run_underlying hu,sizeOf,typeInfo,hi,run_sameAddr_same]
   have e1:=oN key;refine⟨.bool (!ng),?_,.bool _ _⟩;cases ng with
   |true=>simp only[if_true]at ho;simp[execOp,ho,q2,q4,binOp,eqGuard,e1]
   |false=>simp only[afA,if_false]at ho;simp[execOp,ho,q2,q4,binOp,eqGuard,e1]
  ·cases hv
 ·cases hv
theorem UH{k:FK}{t:TypeId}(hk:wZ P t=some k){a b:AV}{x y:Value}(ha:aD w G L a x)(hb:aD w G L b y){r:Bool}(he:eqF k a b=some r)(d:Nat):(Op.equalIn (d+1) t x y).run P w=.ok r w:=by
 unfold wZ at hk;cases k with
 |bool=>
  cases a<;>cases b<;>simp[eqF]at he
  have e1:=cm ha;have e2:=cm hb;subst e1 e2;split at hk<;>simp at hk
  rename_i hu;rw[run_equalIn_bool' w d t _ _ hu,<-he];rename_i p q _;cases p<;>cases q<;>rfl
 |int=>
  cases a<;>cases b<;>simp[eqF]at he
  obtain⟨rfl,he⟩:=he;have e1:=aU ha;have e2:=aU hb;subst e1 e2;split at hk<;>simp at hk
  rename_i hu;rw[run_equalIn_int w d t _ _ _ _ hu,<-he];rfl
 |str=>
  cases a<;>cases b<;>simp[eqF]at he
  have e1:=cJ ha;have e2:=cJ hb;subst e1 e2;split at hk<;>simp at hk
  rename_i hu;rw[run_equalIn_string w d t _ _ hu,<-he];simp only[ByteArray.toList_eq]
  congr 1
  rw[agt];simp
theorem De(d:Nat){as bs:List AV}{xs ys:Array Value}(ha:dx w G L as xs)(hb:dx w G L bs ys):∀(fs:List Field) (i:Nat) (ks:List FK) (r:Bool),vA P i fs=some ks->dZ ks (as.drop i) (bs.drop i)=some r ->
  (Op.eqFields (d+1) xs ys fs).run P w=.ok r w
 | [],i,ks,r,hk,he=>by
  simp only[vA,fS]at hk;subst hk;have:r=true:=by
   cases h1:as.drop i<;>cases h2:bs.drop i<;>simp[h1,h2,dZ]at he
   exact he
  subst this;rfl
 |f::fs,i,ks,r,hk,he=>by
  simp only[vA]at hk;split at hk
  ·rename_i hc;obtain⟨ho,hn,hsh⟩:=hc;split at hk
   ·rename_i k s h1 h2;injection hk with hk
    subst hk;cases h3:as.drop i with
    |nil=>simp[h3,dZ]at he
    |cons a as'=>
     cases h4:bs.drop i with
     |nil=>simp[h3,h4,dZ]at he
     |cons b bs'=>
      simp only[h3,h4,dZ]at he;split at he
      ·rename_i p q h5 h6;injection he with he
       have ga:as[i]?=some a:=by
        have:(as.drop i)[0]?=some a:=by rw[h3];rfl
        simpa using this
       have gb:bs[i]?=some b:=by
        have:(bs.drop i)[0]?=some b:=by rw[h4];rfl
        simpa using this
       have da:as.drop (i+1)=as':=by
        have:(as.drop i).drop 1=as':=by rw[h3];rfl
        simpa using this
       have db:bs.drop (i+1)=bs':=by
        have:(bs.drop i).drop 1=bs':=by rw[h4];rfl
        simpa using this
       obtain⟨x,k1,k2⟩:=rW ha hsh (off:=i) (v:=a) (by simpa using ga);obtain⟨y,k3,k4⟩:=rW hb hsh (off:=i) (v:=b) (by simpa using gb);have k5:=UH h1 k2 k4 h5 d;have k6:=De d ha hb fs (i+1) s q h2 (by rw[da,db];exact h6);subst he;simp only[Op.eqFields];rw[if_pos hn,ho];simp only[afs,k1,k3,k5,afI];cases p
       ·simp
       ·simp[k6]
      ·cases he
   ·cases hk
  ·cases hk
theorem Vr{e:Env}{a:Act}(he:aF w G L e a){o:Oper}{ng:Bool}{t ty:TypeId}{x z:Operand}{x' z':Opd}{ks:List FK}
  (ho:o.op=.binOp (if ng then .neq else .eql) t x z ty) (hx:aS x=some x') (hz:aS z=some z') (hf:pY P t=some ks) {v:AV} (hv:evP (.eqA ng ks x' z') e=some v):Yields P w G L a o v:=by
 have hr:=aG he hx;have hrz:=aG he hz;unfold pY at hf;split at hf
 ·rename_i fs hu;split at hf
  ·rename_i hc;obtain⟨hsi,hgt⟩:=hc;simp only[evP]at hv;split at hv
   ·rename_i as bs h1 h2;split at hv
    ·rename_i r h3;injection hv with hv
     subst hv;rw[h1]at hr;rw[h2]at hrz;generalize hg1:a.eval x=xv at hr;generalize hg2:a.eval z=zv at hrz;cases hr with
     |agg L as xs al ao ah=>
      cases hrz with
      |agg L bs ys bl bo bh=>
       have hP:P.fieldsOf t=fs:=by unfold Program.fieldsOf;rw[hu]
       have hu2:P.underlying t=some (.struct (P.fieldsOf t)):=by rw[hP];exact hu
       have key:∀d,(Op.equalIn (d+1+1) t (.agg xs) (.agg ys)).run P w=.ok r w:=λd=>by
        rw[run_equalIn_struct w (d+1) t xs ys hu2 hsi,hP];exact De d ⟨al,λi hi=>⟨ao i hi,ah i hi⟩⟩ ⟨bl,λi hi=>⟨bo i hi,bh i hi⟩⟩ fs.toList 0 ks r hf h3
       have e1:(Op.equal t (.agg xs) (.agg ys)).run P w=.ok r w:=key 9998;have e2:=λop=>run_eqGuard_agg (P:=P) w op t x z xs ys hgt
       refine⟨.bool (if ng then !r else r),?_,.bool _ _⟩;cases ng with
       |true=>simp only[if_true]at ho;simp[execOp,ho,hg1,hg2,binOp,e1,e2]
       |false=>simp only[afA,if_false]at ho;simp[execOp,ho,hg1,hg2,binOp,e1,e2]
    ·cases hv
   ·cases hv
  ·cases hf
 ·cases hf
theorem DJ(fn:Func){s:String}(hs:DN s)(h:fn.name=s):Extern.find fn=some Extern.AbiNoEscape.same:=by
 obtain⟨e1,e2,e3,_⟩:=hs;unfold Extern.find;simp only[h,e1,e2,e3];rfl
theorem DK (fn : Func) {s : String} (hs : DN s) (h : fn.name = s) (h2 : fn.origin = "") : Extern.findNext fn = none := by
 obtain⟨_,_,_,nx,_⟩:=hs
 have nx2 : Extern.allNextRows.lookup "" = none := by kernel_rfl
 unfold Extern.findNext;simp only[h,h2,nx,nx2];rfl
theorem RX{s:Option String}(hs0:∀n,s=some n->DN n){f:FuncId}(h:Ds P s (.func f)=true)(x:Value):(callFunc f #[x]).run P w=.ok (.value x) w:=by
 simp only[Ds]at h;cases hf:P.funcs[f]? with
 |none=>rw[hf]at h;cases h
 |some fn=>
  rw[hf]at h;simp only[afC,beq_iff_eq]at h;obtain⟨⟨hb,h1⟩,h2⟩:=h;have hs:=hs0 fn.name h1.symm;have h1:fn.name=fn.name:=rfl
  have hn : (fn.name == "runtime.NumGoroutine") = false := hs.2.2.2.2
  unfold callFunc;simp only[afs,run_program,afI,hf,hn,afA,if_false,hb,if_true,DK fn hs h1 h2,DJ fn hs h1];have e0:Extern.AbiNoEscape.same #[x]=pure x:=rfl;simp[e0]
theorem Ye{s:Option String}(hns:∀n,s=some n->DN n){e:Env}{a:Act}(he:aF w G L e a){o:Oper}{c:Call}{g x:Operand}{x':Opd}(ho:o.op=.call c)(hc:c.callee=.value g)(hs:Ds P s g=true)(hargs:c.args.toList=[x])(hx:aS x=some x'):Yields P w G L a o (x'.ev e):=by
 have hA:c.args=#[x]:=by rw[<-Array.toArray_toList (xs:=c.args),hargs]
 have hg:∃f,g=.func f:=by
  cases g with
  |func f=>exact⟨f,rfl⟩
  |_=>simp[Ds]at hs
 obtain⟨f,rfl⟩:=hg;refine⟨a.eval x,?_,aG he hx⟩;have hev:a.eval (.func f)=.func (.func f) #[] #[]:=rfl;have:=RX (P:=P) (w:=w) hns hs (a.eval x);simp only[execOp,ho,resolve,hc,hA,agv,afj,afw,afs,afV,afI,hev,Deferred.ofValue,invoke];simpa using this
theorem oD{xs:List Operand}{y:Opd}(h:gK xs=some [y]):∃x,xs=[x]∧aS x=some y:=by
 cases xs with
 |nil=>simp[gK]at h
 |cons x0 r=>
  simp only[gK]at h;cases h1:aS x0 with
  |none=>simp[h1]at h
  |some y0=>
   cases h2:gK r with
   |none=>simp[h1,h2]at h
   |some s=>
    simp only[h1,h2,fS,afH]at h;obtain⟨rfl,rfl⟩:=h;cases r with
    |nil=>exact⟨x0,rfl,h1⟩
    |cons a r=>
     simp only[gK]at h2;split at h2<;>cases h2
theorem EP{xs:List Operand}{y z:Opd}(h:gK xs=some [y,z]):∃x u,xs=[x,u]∧aS x=some y∧aS u=some z:=by
 cases xs with
 |nil=>simp[gK]at h
 |cons x0 r=>
  simp only[gK]at h;cases h1:aS x0 with
  |none=>simp[h1]at h
  |some y0=>
   cases h2:gK r with
   |none=>simp[h1,h2]at h
   |some s=>
    simp only[h1,h2,fS,afH]at h;obtain⟨rfl,rfl⟩:=h;obtain⟨u,rfl,hu⟩:=oD h2;exact⟨x0,u,rfl,h1,hu⟩
