/-
  The operations that read no memory: all of them.
-/
import Derived.Test.YtjnomgdildcbhaaGreatDoorAbPops
import Derived.Maps.AppendAt
set_option linter.all false
namespace Go.Ab
open Go.RowKit
variable{P:Program}{w:World}{G:Gm}{L:Loc->Prop}
theorem pure_ok{H:Hints}{f:FuncId}{o:Oper}{q:POp}(h:cOp P H f o=.p q){e:Env}{a:Act}(he:aF w G L e a){v:AV}(hv:evP q e=some v):Yields P w G L a o v:=by
 unfold cOp at h;cases hop:o.op with
 |move x=>
  simp only[hop]at h;split at h
  ·rename_i y hy;injection h with h;subst h
   simp only[evP,fS]at hv;subst hv;exact acK he (.inl hop) hy
  ·cases h
 |assign x=>
  simp only[hop]at h;split at h
  ·rename_i y hy;split at h
   ·cases h
   ·injection h with h;subst h
    simp only[evP,fS]at hv;subst hv;exact acK he (.inr hop) hy
  ·cases h
 |pick c x z=>
  simp only[hop]at h;split at h
  ·rename_i c' x' z' hc hx hz;injection h with h;subst h
   exact Yd he hop hc hx hz hv
  ·cases h
 |build t ps=>
  simp only[hop]at h;split at h
  ·rename_i z pl hz hpl;split at h
   ·rename_i s hs;injection h with h;subst h
    exact acL he hop hz hpl hs hv
   ·cases h
  ·cases h
 |nilCheck x=>
  simp only[hop]at h;split at h
  ·rename_i y hy;split at h
   ·rename_i nm _;injection h with h;subst h
    exact RG he hop hy (λt ht=>(agC.1 ht).2) hv
   ·injection h with h;subst h
    exact Uz he hop hy hv
  ·cases h
 |binOp b t x z ty=>
  simp only[hop]at h;split at h
  ·rename_i x' z' hx hz;split at h
   ·injection h with h;subst h
    exact Vn he hop hx hz hv
   ·injection h with h;subst h
    exact Vn he hop hx hz hv
   ·rename_i hu;split at h
    ·injection h with h;subst h
     exact Vo (ng:=false) he hop hx hz hu hv
    ·injection h with h;subst h
     exact Vo (ng:=true) he hop hx hz hu hv
    ·cases h
   ·rename_i d _ _ _ hu;split at h
    ·rename_i k hk;split at h
     ·injection h with h;subst h
      exact Vp (ng:=false) he hop hx hk hu hv
     ·injection h with h;subst h
      exact Vp (ng:=true) he hop hx hk hu hv
     ·cases h
    ·split at h
     ·split at h
      ·rename_i j hi;split at h
       ·injection h with h;subst h
        exact Vq (ng:=false) he hop hx hz hu hi hv
       ·injection h with h;subst h
        exact Vq (ng:=true) he hop hx hz hu hi hv
       ·cases h
      ·cases h
     ·split at h
      ·rename_i ks hks;split at h
       ·injection h with h;subst h
        exact Vr (ng:=false) he hop hx hz hks hv
       ·injection h with h;subst h
        exact Vr (ng:=true) he hop hx hz hks hv
       ·cases h
      ·cases h
     ·cases h
   ·cases h
  ·cases h
 |unOp u t x=>
  simp only[hop]at h;split at h
  ·rename_i y hy;injection h with h;subst h
   exact acM he hop hy hv
  ·rename_i y hy;injection h with h;subst h
   exact acN he hop hy hv
  ·cases h
 |convert s d x=>
  simp only[hop]at h;split at h
  ·rename_i y k0 k hy hs hd;injection h with h;subst h
   exact acO he hop hy hs hd hv
  ·rename_i y hy hs hd;injection h with h;subst h
   exact acP he hop hy hs hd hv
  ·split at h<;>cases h
  ·split at h<;>cases h
  ·repeat' (first|(cases h;done)|split at h)
  ·repeat' (first|(cases h;done)|split at h)
  ·cases h
 |makeInterface t x=>
  simp only[hop]at h;split at h
  ·cases h
  ·rename_i y d hni hy hu;injection h with h;subst h
   simp only[evP,fS]at hv;subst hv;exact acQ he hop hy hu (λms e=>hni ms e)
  ·cases h
 |makeFunc fn x z=>
  simp only[hop]at h;split at h
  ·rename_i x' z' hx hz;injection h with h;subst h
   simp only[evP,fS]at hv;subst hv;exact acR he hop hx hz
  ·cases h
 |slice t x lo hi mx=>
  simp only[hop]at h;split at h
  ·rename_i y lo' hi' hu hx hl hh hm;injection h with h;subst h
   have hmx:mx=none:=by
    cases mx with
    |none=>rfl
    |some m=>simp only[jt]at hm;split at hm<;>cases hm
   subst hmx;exact acS he hop hx hl hh hu hv
  ·split at h<;>cases h
  ·split at h<;>cases h
  ·cases h
 |fieldAddr t x i=>
  simp only[hop]at h;split at h
  ·rename_i y off ft hy hf;split at h
   ·rename_i ag sz hsh;split at h
    ·rename_i hsz;injection h with h;subst h
     exact aeR he hop hy hf hsh hsz hv
    ·cases h
   ·cases h
  ·cases h
 |field t x i=>
  simp only[hop]at h;split at h
  ·rename_i y off ft hy hf;split at h
   ·rename_i ag sz hsh;injection h with h;subst h
    exact acT he hop hy hf hsh hv
   ·cases h
  ·cases h
 |indexAddr t x i=>
  simp only[hop]at h;split at h
  ·rename_i y j n el hx hi hu;split at h
   ·rename_i ag sz hsh;injection h with h;subst h
    exact acU he hop hx hi hu hsh hv
   ·cases h
  ·rename_i y j el hx hi hu;split at h
   ·rename_i ag sz hsh;injection h with h;subst h
    exact acV he hop hx hi hu hsh hv
   ·cases h
  ·cases h
 |index t x i=>
  simp only[hop]at h;split at h
  ·rename_i y j n el hx hi hu;split at h
   ·rename_i ag sz hsh;injection h with h;subst h
    exact acW he hop hx hi hu hsh hv
   ·cases h
  ·rename_i y j hx hi hu;injection h with h;subst h
   exact acX he hop hx hi hu hv
  ·cases h
 |typeAssert x xt t ok=>
  simp only[hop]at h;split at h
  ·cases h
  ·rename_i y d z hni hy hu hz;injection h with h;subst h
   exact acY he hop hy hu (λms e=>hni ms e) hz hv
  ·cases h
 |extract x i=>
  simp only[hop]at h;split at h
  ·rename_i y hy;injection h with h;subst h
   exact acZ he hop hy hv
  ·cases h
 |call c=>
  simp only[hop]at h;split at h
  ·rename_i g xs hc hx;split at h
   ·rename_i hs;split at h
    ·rename_i x;injection h with h;subst h
     simp only[evP,fS]at hv;subst hv;obtain⟨x0,hl,hx0⟩:=oD hx;exact Ye H.KJ he hop hc hs hl hx0
    ·cases h
   ·split at h<;>cases h
  ·split at h<;>cases h
  ·split at h<;>cases h
  ·repeat' (first|(cases h;done)|split at h)
  ·rename_i x hc hx;have hargs:=oD hx;obtain⟨x0,hl,hx0⟩:=hargs;split at h
   ·rename_i t ht;split at h
    ·rename_i hu;injection h with h;subst h
     exact Vs he hop hc hl hx0 ht (.inl ⟨rfl,hu⟩) hv
    ·rename_i el hu;injection h with h;subst h
     exact Vs he hop hc hl hx0 ht (.inr ⟨rfl,el,hu⟩) hv
    ·cases h
    ·cases h
   ·cases h
  ·rename_i xs hc hx;injection h with h;subst h
   exact ac0 (mx:=true) he hop hc hx hv
  ·rename_i xs hc hx;injection h with h;subst h
   exact ac0 (mx:=false) he hop hc hx hv
  ·repeat' (first|(cases h;done)|split at h)
  ·cases h
 |alloc t=>simp only[hop]at h;repeat' (first|(cases h;done)|split at h)
 |box t x=>simp only[hop]at h;repeat' (first|(cases h;done)|split at h)
 |buildSlice t n ps=>simp only[hop]at h;repeat' (first|(cases h;done)|split at h)
 |load t x=>simp only[hop]at h;repeat' (first|(cases h;done)|split at h)
 |store t x y=>simp only[hop]at h;repeat' (first|(cases h;done)|split at h)
 |makeSlice t l c=>simp only[hop]at h;repeat' (first|(cases h;done)|split at h)
 |makeMap t r=>simp only[hop]at h;repeat' (first|(cases h;done)|split at h)
 |lookup t x k ok=>simp only[hop]at h;repeat' (first|(cases h;done)|split at h)
 |mapUpdate t x k v=>simp only[hop]at h;repeat' (first|(cases h;done)|split at h)
 |insert t x k v=>simp only[hop]at h;repeat' (first|(cases h;done)|split at h)
 |panic x=>simp only[hop]at h;repeat' (first|(cases h;done)|split at h)
 |_=>simp only[hop]at h;cases h
end Go.Ab
namespace Go.Ab
open Go.RowKit
variable{P:Program}{w:World}{G:Gm}{L:Loc->Prop}{h:Heap}
theorem nN{a:Addr}{v:Value}(hc:w.cell? a=some v):(load a).run P w=.ok v w:=by
 rw[run_load,hc]
theorem xe{e:AV}{b base o:Nat}{vf:Nat->Value}(hc:∀j,j<e.cells.length->w.cell? ⟨b,base+j,none⟩=some (vf j)∧(vf j).oneCell'=true)
  (hv:∀j,j<e.cells.length->aD w G L (e.cells.getD j .top) (vf j)) {t:TypeId} {ag:Bool} {sz:Nat} (hsh:shapeOf P t=some (ag,sz)) (hsz:0<sz) {v:AV} (hg:AG ag sz e o=some v) :
  ∃x,(loadVar t ⟨b,base+o,none⟩).run P w=.ok x w∧aD w G L v x:=by
 have hA:=zx hsh w;have hS:=run_sizeOf hsh w;have agg:∀k,k+sz<=e.cells.length->∃vs:Array Value,(loadCells ⟨b,base+k,none⟩ sz).run P w=.ok vs w∧dx w G L ((e.cells.drop k).take sz) vs:=λk hk=>by
  refine⟨_,run_loadCells (P:=P) w ⟨b,base+k,none⟩ sz (λj=>vf (k+j)) (λj hj=>?_),?_,λi hi=>?_⟩
  ·rw[fU,af5];exact (hc (k+j) (by omega)).1
  ·simp;omega
  ·simp at hi;have hi1:i<sz:=by omega
   have e1:((List.range sz).map λj=>vf (k+j)).toArray.getD i undef=vf (k+i):=by
    simp[afx,hi1]
   have e2:((e.cells.drop k).take sz).getD i .top=e.cells.getD (k+i) .top:=by
    simp only[afk];rw[af2 hi1,ags]
   rw[e1,e2];exact⟨(hc (k+i) (by omega)).2,hv (k+i) (by omega)⟩
 unfold AG at hg;split at hg
 ·rename_i c;obtain⟨rfl,c2,c3⟩:=c;injection hg with hg;subst hg
  cases ag with
  |true=>
   obtain⟨vs,h1,h2⟩:=agg 0 (by omega);refine⟨.agg vs,by simp[loadVar,hA,hS]at h1⊢;simp[h1],?_⟩;cases e<;>simp only[AV.isAgg]at c2<;>try (cases c2;done)
   rename_i cs;simp only[AV.cells]at c3 h2;rw[List.drop_zero,agG (by omega)]at h2;exact h2.agg
  |false=>
   have h0:0<e.cells.length:=by omega
   have hcell:=(hc 0 h0).1;refine⟨vf 0,by simp only[loadVar,afs,hA,Result.andThen,afA,if_false];exact nN hcell,?_⟩;have:=hv 0 h0;have e1:e.cells.getD 0 .top=e:=by
    cases e<;>simp only[AV.isAgg]at c2<;>first|(cases c2;done)|rfl|(simp[AV.cells]at h0;done)
   rwa[e1]at this
 ·split at hg
  ·rename_i hag;subst hag;split at hg
   ·rename_i c;injection hg with hg;subst hg
    obtain⟨vs,h1,h2⟩:=agg o c;exact⟨.agg vs,by simp[loadVar,hA,hS,h1],h2.agg⟩
   ·cases hg
  ·rename_i hag;have hag:ag=false:=by cases ag<;>simp_all
   subst hag;have hlt:=(aft.1 hg).1;have hcell:=(hc o hlt).1;refine⟨vf o,by simp only[loadVar,afs,hA,Result.andThen,afA,if_false];exact nN hcell,?_⟩;have:=hv o hlt;rwa[show e.cells.getD o .top=v by simp[afk,hg]]at this
theorem iH{c:Array Value}{t:TypeId}{b o:Nat}(hb:w.heap[b]?=some (.cells c t (0,0)))(ho:o<c.size):w.cell? ⟨b,o,none⟩=some (c.getD o undef):=by
 rw[cell_of_row w b o c t (0,0) hb,afx,afW ho];rfl
theorem zy{h:Heap}{l:Nat}{a:Loc}(k:mR h l a):dom h a:=k.2
theorem Dj{a:Loc}{n sz' i o:Nat}{x:Value}(hp:aD w G (dom h) (.dN a n sz' i o) x){tb:TypeId}{vw:Bool}{es:List AV}(hB:AJ w G a tb sz' vw es)(hn:es.length=n){u:AV}(hu:es[i]?=some u)
  {t:TypeId} {ag:Bool} {sz:Nat} (hsh:shapeOf P t=some (ag,sz)) (hsz:0<sz) {v:AV} (hg:AG ag sz u o=some v):∃y,(Instr.loadAt t x).run P w=.ok y w∧aD w G (dom h) v y:=by
 cases hp with
 |dN _ a n sz' i o m b hLa hm hle hbk=>
  obtain⟨h0,hd⟩:=hB;have hmn:m=n:=by rw[hm]at h0;injection h0 with h0;omega
  have hbk:=hbk hmn;have hlt:=(aft.1 hu).1;have hgd:es.getD i .top=u:=by simp[afk,hu]
  rcases hd with⟨h1,h2⟩|⟨b',c,h1,h2,h3,h4,h5,h6,h7,h8⟩
  ·rw[hbk]at h1;cases h1
  ·rw[hbk]at h1;injection h1 with h1;subst h1
   have hcap:i*sz'+sz'<=c.size:=by
    rw[h3];have:(i+1)*sz'<=G.cap a*sz':=afK _ (by omega);rwa[afQ,age]at this
   have hul:u.cells.length=sz':=by have:=(h7 i hlt).1;rwa[hgd]at this
   obtain⟨y,k1,k2⟩:=xe (P:=P) (w:=w) (G:=G) (L:=bM) (e:=u) (b:=b) (base:=i*sz') (o:=o) (vf:=λj=>c.getD (i*sz'+j) undef)
    (λj hj=>⟨iH h2 (by omega),((h7 i hlt).2 j (by omega)).1⟩) (λj hj=>by have:=((h7 i hlt).2 j (by omega)).2;rwa[hgd]at this) hsh hsz hg
   exact⟨y,by simp[Instr.loadAt,Instr.sureAddr,k1],k2.wider λ_ e=>e.elim⟩
theorem RH{a:Loc}{n sz' i o:Nat}{x:Value}(hp:aD w G (dom h) (.dN a n sz' i o) x){tb:TypeId}{es:List AV}(hB:Ya w G (mR h a.1) a tb sz' es)(hn:es.length=n){u:AV}(hu:es[i]?=some u)
  {t:TypeId} {ag:Bool} {sz:Nat} (hsh:shapeOf P t=some (ag,sz)) (hsz:0<sz) {v:AV} (hg:AG ag sz u o=some v):∃y,(Instr.loadAt t x).run P w=.ok y w∧aD w G (dom h) v y:=by
 cases hp with
 |dN _ a n sz' i o m b hLa hm hle hbk=>
  obtain⟨h0,hd⟩:=hB;have hmn:m=n:=by rw[hm]at h0;injection h0 with h0;omega
  have hbk:=hbk hmn;have hlt:=(aft.1 hu).1;have hgd:es.getD i .top=u:=by simp[afk,hu]
  rcases hd with⟨h1,h2⟩|⟨b',c,h1,h2,h3,h4,h5,h6,h7,h8⟩
  ·rw[hbk]at h1;cases h1
  ·rw[hbk]at h1;injection h1 with h1;subst h1
   have hcap:i*sz'+sz'<=c.size:=by
    rw[h3];have:(i+1)*sz'<=G.cap a*sz':=afK _ (by omega);rwa[afQ,age]at this
   have hul:u.cells.length=sz':=by have:=(h7 i hlt).1;rwa[hgd]at this
   obtain⟨y,k1,k2⟩:=xe (P:=P) (w:=w) (G:=G) (L:=mR h a.1) (e:=u) (b:=b) (base:=i*sz') (o:=o) (vf:=λj=>c.getD (i*sz'+j) undef)
    (λj hj=>⟨iH h2 (by omega),((h7 i hlt).2 j (by omega)).1⟩) (λj hj=>by have:=((h7 i hlt).2 j (by omega)).2;rwa[hgd]at this) hsh hsz hg
   exact⟨y,by simp[Instr.loadAt,Instr.sureAddr,k1],k2.wider λ_=>zy⟩
theorem Aj(s:Sim w G h){p:AV}{x:Value}(hp:aD w G (dom h) p x){t:TypeId}{ag:Bool}{sz:Nat}(hsh:shapeOf P t=some (ag,sz))(hsz:0<sz){v:AV}
  (hg:ow ag sz h p=some v):∃y,(Instr.loadAt t x).run P w=.ok y w∧aD w G (dom h) v y:=by
 unfold ow at hg;split at hg
 ·rename_i a o;split at hg
  ·rename_i tb fz u hb;cases hp with
   |ptr _ a o b hLa hm hbk=>
    obtain⟨b',c,h1,h2,h3,h4,h5,h6⟩:=s.blk a _ hb;rw[hbk]at h2;injection h2 with h2;subst h2
    obtain⟨y,k1,k2⟩:=xe (P:=P) (w:=w) (G:=G) (L:=mR h a.1) (e:=u) (b:=b) (base:=0) (o:=o) (vf:=λj=>c.getD j undef)
     (λj hj=>⟨by rw[afu];exact iH h3 (by omega),(h5 j (by omega)).1⟩) (λj hj=>(h5 j (by omega)).2) hsh hsz hg
    refine⟨y,?_,k2.wider λ_=>zy⟩;rw[afu]at k1;simp[Instr.loadAt,Instr.sureAddr,k1]
  ·cases hg
 ·rename_i a n sz' i o;split at hg
  ·rename_i tb s' vw es hb;split at hg
   ·rename_i hn;obtain⟨hn,rfl⟩:=hn;split at hg
    ·rename_i u hu;exact Dj hp (s.blk a _ hb) hn hu hsh hsz hg
    ·cases hg
   ·cases hg
  ·rename_i tb s' k ti si out es hb;split at hg
   ·rename_i hn;obtain⟨hn,rfl⟩:=hn;split at hg
    ·rename_i u hu;exact Dj hp (s.blk a _ hb).1 hn hu hsh hsz hg
    ·cases hg
   ·cases hg
  ·rename_i tb s' es hb;split at hg
   ·rename_i hn;obtain⟨hn,rfl⟩:=hn;split at hg
    ·rename_i u hu;exact RH hp (s.blk a _ hb) hn hu hsh hsz hg
    ·cases hg
   ·cases hg
  ·cases hg
 ·rename_i u o;cases hp with
  |eF _ u o b off vf hc hv=>
   obtain⟨y,k1,k2⟩:=xe (P:=P) (w:=w) (G:=G) (L:=bM) (e:=u) (b:=b) (base:=off) (o:=o) (vf:=vf)
     (λj hj=>⟨(hc j hj).1,(hc j hj).2.2⟩) hv hsh hsz hg
   exact⟨y,by simp[Instr.loadAt,Instr.sureAddr,k1],k2.wider λ_ e=>e.elim⟩
 ·cases hg
theorem tq(s:Sim w G h)(hn:h≠[]){v:AV}{c:Array Value}(hv:dx w G (dom h) v.cells c)(t:TypeId) :
  Sim (w.alloc (.cells c t)) (G.at_ (hnext h) (some w.heap.size) none 0) (hnew h (.box t false v)) ∧
  Goes w G h (w.alloc (.cells c t)) (G.at_ (hnext h) (some w.heap.size) none 0) (hnew h (.box t false v)) ∧
  aD (w.alloc (.cells c t)) (G.at_ (hnext h) (some w.heap.size) none 0) (dom (hnew h (.box t false v))) (.ptr (hnext h) 0) (.pointer (some ⟨w.heap.size,0,none⟩)):=by
 have hb:∀k,k<w.heap.size->(w.alloc (.cells c t)).heap[k]?=w.heap[k]?:=λk hk=>heap_alloc_old w _ hk
 have g:=Goes.new (w':=w.alloc (.cells c t)) (B:=.box t false v) (b:=some w.heap.size) (n:=none) (c:=0) s hn rfl rfl rfl (by simp) hb (λk hk=>by injection hk with hk;omega);refine⟨s.new hn (by simp) hb (λk hk=>by injection hk with hk;omega) ?_,g,?_⟩
 ·refine⟨w.heap.size,c,by simp[Gm.at_],by simp[Gm.at_],heap_alloc_new w _,hv.1,λj hj=>?_,λo ho=>?_⟩
  ·have hj':j<v.cells.length:=by rw[<-hv.1];exact hj
   refine⟨(hv.2 j hj').1,(hv.2 j hj').2.mono g.imm λa ha=>⟨⟨?_,(g.loc a ha).1⟩,(g.loc a ha).2⟩⟩;obtain⟨B,hB⟩:=Kv ha;have h1:=mO hB;have h2:=Jb hn;omega
  ·have:=s.imm _ _ ho;omega
 ·exact .ptr _ _ _ _ ((dw hn _ _).2 (.inl rfl)) (by simp[Gm.at_]) (by simp[Gm.at_])
theorem Un(s:Sim w G h)(hn:h≠[]){a:Act}{o:Oper}{t:TypeId}{z:AV}(ho:o.op=.alloc t)(hz:zeroOf P t=some z)(hpos:0<z.cells.length) :
  ∃x w' G',(execOp a.eval o).run P w=.ok (.value x) w'∧Sim w' G' (hnew h (.box t false z))∧Goes w G h w' G' (hnew h (.box t false z)) ∧
   aD w' G' (dom (hnew h (.box t false z))) (.ptr (hnext h) 0) x:=by
 obtain⟨i,zv,hi,hzv,hzz,hzl⟩:=cY hz;have hzr:aD w G (dom h) z zv:=by rw[hzz];exact fD zv
 obtain⟨k1,k2,k3⟩:=tq s hn (hzr.dO hpos) t;refine⟨_,_,_,?_,k1,k2,k3⟩;simp[execOp,ho,Instr.alloc,zeroValue,typeInfo,hi,hzv,newVar,newRow]
theorem acn(s:Sim w G h)(hn:h≠[]){e:Env}{a:Act}(he:aF w G (dom h) e a){o:Oper}{t:TypeId}{x:Operand}{y:Opd}(ho:o.op=.box t x)(hx:aS x=some y)
  (hpos:0<(y.ev e).cells.length) :
  ∃x w' G',(execOp a.eval o).run P w=.ok (.value x) w'∧Sim w' G' (hnew h (.box t false (y.ev e)))∧Goes w G h w' G' (hnew h (.box t false (y.ev e))) ∧
   aD w' G' (dom (hnew h (.box t false (y.ev e)))) (.ptr (hnext h) 0) x:=by
 obtain⟨k1,k2,k3⟩:=tq s hn ((aG he hx).dO hpos) t;refine⟨_,_,_,?_,k1,k2,k3⟩;simp[execOp,ho,Instr.box,newVar,newRow]
theorem pV{e v e':AV}{o:Nat}(hh:Kj e o v=some e')(hpos:0<v.cells.length):e'.cells=e.cells.take o++v.cells++e.cells.drop (o+v.cells.length)∧o+v.cells.length<=e.cells.length:=by
 unfold Kj at hh;split at hh
 ·rename_i c;obtain⟨rfl,c2,c3⟩:=c;injection hh with hh;subst hh
  exact⟨by simp[c3],by omega⟩
 ·split at hh
  ·split at hh
   ·rename_i c;injection hh with hh;subst hh
    exact⟨rfl,c⟩
   ·cases hh
  ·cases hh
theorem pW{w:World}{b:Nat}{c:Array Value}{t:TypeId}(hb:w.heap[b]?=some (.cells c t (0,0)))(c':Array Value):(w.setRow b c').heap[b]?=some (.cells c' t (0,0)):=
 setRow_heap w b c c' t (0,0) hb
theorem gY{x:Value}{v:AV}(hv:dx w G L v.cells x.cells){c:Array Value}{t0:TypeId}{b k:Nat}(hb:w.heap[b]?=some (.cells c t0 (0,0)))(hfit:k+v.cells.length<=c.size)
  {t:TypeId} {ag:Bool} {sz:Nat} (hsh:shapeOf P t=some (ag,sz)) (hsz:v.cells.length=sz) :
  (storeVar t ⟨b,k,none⟩ x).run P w=.ok () (w.setRow b (c.toList.take k++x.cells.toList++c.toList.drop (k+v.cells.length)).toArray):=by
 have hS:=run_sizeOf hsh w;have hl:x.cells.toList.length=v.cells.length:=by rw[afP];exact hv.1
 have h1:∀u∈x.cells.toList,u.oneCell'=true:=λu hu=>by
  obtain⟨i,hi,rfl⟩:=agB hu;have:=(hv.2 i (by omega)).1;rw[afx,afW (by simpa using hi)]at this;simpa using this
 have:=run_storeCells_at P b k t0 x.cells.toList 0 c w hb (by simp only[af1];omega) h1;simp only[af1,hl]at this;unfold storeVar;have hs2:x.cells.size=sz:=by rw[hv.1,hsz]
 simp only[afs,hS,Result.andThen,hs2,ne_eq,not_true_eq_false,if_false,this]
theorem gz{α:Type}(d:α)(l m:List α)(k m' j:Nat)(hm:m.length=m')(hfit:k+m'<=l.length) :
  (l.take k++m++l.drop (k+m')).getD j d=if k<=j∧j<k+m' then m.getD (j-k) d else l.getD j d:=by
 subst hm;simp only[afk];by_cases c:k<=j∧j<k+m.length
 ·rw[if_pos c,afX,afT (by simp;omega),afF (by simp;omega)];simp only[agw];rw[Nat.min_eq_left (by omega)]
 ·rw[if_neg c];by_cases h1:j<k
  ·rw[afX,afF (by simp;omega),af2 h1]
  ·rw[afT (by simp;omega),ags]
   congr 2
   simp;omega
theorem fM{α:Type}(l m:List α)(k m':Nat)(hm:m.length=m')(hfit:k+m'<=l.length):(l.take k++m++l.drop (k+m')).length=l.length:=by
 subst hm;simp;omega
theorem jk{α:Type}(d:α)(l:List α)(j:Nat):l.toArray.getD j d=l.getD j d:=by
 simp[afx,afk]
theorem getD_toList{α:Type}(d:α)(c:Array α)(j:Nat):c.toList.getD j d=c.getD j d:=by
 simp[afx,afk]
theorem kF{p:Loc->Bool}{v:AV}(h:v.aO p=true){j:Nat}(hj:j<v.cells.length):(v.cells.getD j .top).aO p=true:=by
 cases v
 case agg cs=>simp only[AV.aO]at h;exact fI h j hj
 case top=>simp[AV.cells]at hj
 case tup=>simp[AV.cells]at hj
 all_goals
  have hz:j=0:=by simp only[AV.cells,afU]at hj;omega
  subst hz;exact h
theorem Kw(s:Sim w G h){p v:AV}{px vx:Value}(hp:aD w G (dom h) p px)(hv:aD w G (dom h) v vx)(hpos:0<v.cells.length){t:TypeId}{ag:Bool}
  (hsh:shapeOf P t=some (ag,v.cells.length)) {h':Heap} (hst:A7 h p v=some h') :
  ∃w',(Instr.storeAt t px vx).run P w=.ok () w'∧Sim w' G h'∧Goes w G h w' G h':=by
 have hvc:=hv.dO hpos;have hvl:vx.cells.toList.length=v.cells.length:=by rw[afP];exact hvc.1
 unfold A7 at hst;split at hst
 ·rename_i a o;split at hst
  ·rename_i tb fz u hb;split at hst
   ·rename_i c0;obtain⟨hfz,Rz⟩:=c0;subst hfz;split at hst
    ·rename_i u' hu';injection hst with hst;subst hst
     obtain⟨hcells,hfit⟩:=pV hu' hpos;cases hp with
     |ptr _ a o b hLa hm hbk=>
      obtain⟨b',c,h1,h2,h3,h4,h5,h6⟩:=s.blk a _ hb;rw[hbk]at h2;injection h2 with h2;subst h2
      have hrun:=gY (P:=P) (k:=o) hvc h3 (by omega) hsh rfl;have hw:∀k,k≠b->(w.setRow b (c.toList.take o++vx.cells.toList++c.toList.drop (o+v.cells.length)).toArray).heap[k]?=w.heap[k]?:=λk hk=>setRow_other w b k _ hk
      have hI:aW w G (w.setRow b (c.toList.take o++vx.cells.toList++c.toList.drop (o+v.cells.length)).toArray) G:=λk q hi=>by
       refine⟨hi,agf (hw k λe=>?_)⟩;subst e;have:=h6 q hi;cases this
      have hA:∀a,Agree G G a:=Agree.refl G;refine⟨_,by simpa[Instr.storeAt,Instr.sureAddr]using hrun,s.update hLa (by simp) (λk _ hk=>hw k λe=>hk (by rw[e];exact hbk)) (λ_ _=>⟨rfl,rfl,rfl⟩) (hA a) hI (λ_ _ hi=>.inl hi) (λ_ hk=>.inl hk) ?_,
       Goes.update hLa rfl rfl rfl (by simp) (λk _ hk=>hw k λe=>hk (by rw[e];exact hbk)) (λ_ _=>⟨rfl,rfl,rfl⟩) (hA a) hI (λ_ hk=>.inl hk) (λ_ _ hk=>.inl hk)⟩
      refine⟨b,_,h1,hbk,pW h3 _,?_,λj hj=>?_,λq hq=>absurd (h6 q hq) (by simp)⟩
      ·rw[hcells];have:=fM u.cells v.cells o _ rfl hfit;simp only[af8];rw[this];rw[fM _ _ _ _ hvl (by have:=afP (xs:=c);omega),afP (xs:=c)];omega
      ·simp only[af8]at hj;have hj2:j<c.size:=by
        rw[fM _ _ _ _ hvl (by have:=afP (xs:=c);omega),afP (xs:=c)]at hj;exact hj
       rw[jk,hcells,gz _ _ _ _ _ _ rfl hfit];rw[gz _ _ _ _ _ _ hvl (by have:=afP (xs:=c);omega)];by_cases cc:o<=j∧j<o+v.cells.length
       ·rw[if_pos cc,if_pos cc,getD_toList];obtain⟨k1,k2⟩:=hvc.2 (j-o) (by omega);refine⟨k1,k2.goes hI (p:=λq=>decide (q.1<=a.1)) ?_ λq hq hpq=>⟨⟨by simpa using hpq,(bI h a q _).2 hq⟩,hA q⟩⟩;exact kF Rz (by omega)
       ·rw[if_neg cc,if_neg cc,getD_toList];obtain⟨k1,k2⟩:=h5 j hj2;exact⟨k1,k2.mono hI λq hq=>⟨⟨hq.1,(bI h a q _).2 hq.2⟩,hA q⟩⟩
    ·cases hst
   ·cases hst
  ·cases hst
 ·rename_i a n sz i o;split at hst
  ·rename_i tb s' vw es hb;split at hst
   ·rename_i c0;obtain⟨hvw,hn,rfl,hpure⟩:=c0;subst hvw;split at hst
    ·rename_i u hu;split at hst
     ·rename_i u' hu';injection hst with hst;subst hst
      obtain⟨hcells,hfit⟩:=pV hu' hpos;cases hp with
      |dN _ a n sz i o m b hLa hm hle hbk=>
       obtain⟨h0,hd⟩:=s.blk a _ hb;have hmn:m=n:=by rw[hm]at h0;injection h0 with h0;omega
       have hbk:=hbk hmn;have hlt:=(aft.1 hu).1;have hgd:es.getD i .top=u:=by simp[afk,hu]
       rcases hd with⟨h1,h2⟩|⟨b',c,h1,h2,h3,h4,h5,h6,h7,h8⟩
       ·rw[hbk]at h1;cases h1
       ·rw[hbk]at h1;injection h1 with h1;subst h1
        have hul:u.cells.length=sz:=by have:=(h7 i hlt).1;rwa[hgd]at this
        have hcap:i*sz+sz<=c.size:=by
         rw[h3];have:(i+1)*sz<=G.cap a*sz:=afK _ (by omega);rwa[afQ,age]at this
        have hrun:=gY (P:=P) (k:=i*sz+o) hvc h2 (by omega) hsh rfl;have hw:∀k,k≠b->(w.setRow b (c.toList.take (i*sz+o)++vx.cells.toList++c.toList.drop (i*sz+o+v.cells.length)).toArray).heap[k]?=w.heap[k]?:=λk hk=>setRow_other w b k _ hk
        have hI:aW w G (w.setRow b (c.toList.take (i*sz+o)++vx.cells.toList++c.toList.drop (i*sz+o+v.cells.length)).toArray) G:=λk q hi=>by
         refine⟨hi,agf (hw k λe=>?_)⟩;subst e;have:=(h8 q hi).1;cases this
        have hA:∀a,Agree G G a:=Agree.refl G;refine⟨_,by simpa[Instr.storeAt,Instr.sureAddr]using hrun,s.update hLa (by simp) (λk _ hk=>hw k λe=>hk (by rw[e];exact hbk)) (λ_ _=>⟨rfl,rfl,rfl⟩) (hA a) hI (λ_ _ hi=>.inl hi) (λ_ hk=>.inl hk) ?_,
         Goes.update hLa rfl rfl rfl (by simp) (λk _ hk=>hw k λe=>hk (by rw[e];exact hbk)) (λ_ _=>⟨rfl,rfl,rfl⟩) (hA a) hI (λ_ hk=>.inl hk) (λ_ _ hk=>.inl hk)⟩
        refine⟨by rw[afY];exact h0,.inr ⟨b,_,hbk,pW h2 _,?_,h4,by rw[afY];exact h5,h6,λi' hi'=>?_,λq hq=>absurd (h8 q hq).1 (by simp)⟩⟩
        ·simp only[af8];rw[fM _ _ _ _ hvl (by have:=afP (xs:=c);omega),afP (xs:=c)];exact h3
        ·rw[afY]at hi';have hg':(es.set i u').getD i' .top=if i=i' then u' else es.getD i' .top:=by
          simp only[afk,agS];by_cases e:i=i'
          ·simp[e,hi']
          ·simp[e]
         have Yb:u'.cells.length=sz:=by rw[hcells,fM _ _ _ _ rfl hfit,hul]
         refine⟨?_,λj hj=>?_⟩
         ·rw[hg'];split
          ·exact Yb
          ·exact (h7 i' hi').1
         ·rw[jk,gz _ _ _ _ _ _ hvl (by have:=afP (xs:=c);omega),hg'];by_cases e:i=i'
          ·subst e;rw[if_pos rfl,hcells,gz _ _ _ _ _ _ rfl hfit];by_cases cc:o<=j∧j<o+v.cells.length
           ·rw[if_pos cc,if_pos (by omega),getD_toList];obtain⟨k1,k2⟩:=hvc.2 (j-o) (by omega);rw[show i*sz+j-(i*sz+o)=j-o by omega];refine⟨k1,k2.goes hI (p:=λq=>false) ?_ λq _ hpq=>by cases hpq⟩;exact kF hpure (by omega)
           ·rw[if_neg cc,if_neg (by omega),getD_toList];obtain⟨k1,k2⟩:=(h7 i hi').2 j hj;rw[hgd]at k2;exact⟨k1,k2.mono hI λq hq=>hq.elim⟩
          ·rw[if_neg e];have hout:¬ (i*sz+o<=i'*sz+j∧i'*sz+j<i*sz+o+v.cells.length):=by
            rintro⟨q1,q2⟩;rcases agR e with q|q
            ·have:(i+1)*sz<=i'*sz:=afK _ q;rw[afQ,age]at this;omega
            ·have:(i'+1)*sz<=i*sz:=afK _ q;rw[afQ,age]at this;omega
           rw[if_neg hout,getD_toList];obtain⟨k1,k2⟩:=(h7 i' hi').2 j hj;exact⟨k1,k2.mono hI λq hq=>hq.elim⟩
     ·cases hst
    ·cases hst
   ·cases hst
  ·cases hst
 ·cases hst
