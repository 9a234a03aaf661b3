/-
  The operations that read no memory: all of them.
-/
import Derived.Test.YtjnomgdildcbhaaGreatDoorAbPops
import Derived.Maps.AppendAt
set_option linter.unusedVariables false
set_option linter.unusedSimpArgs false
namespace Go.Ab
open Go.RowKit
variable {P:Program} {w:World} {G:Gm} {L:Loc->Prop}
theorem pure_ok {H:Hints} {f:FuncId} {o:Oper} {q:POp} (h:cOp P H f o=.p q) {e:Env} {a:Act} (he:aB w G L e a) {v:AV} (hv:evP q e=some v):Yields P w G L a o v:=by
 unfold cOp at h
 cases hop:o.op with
 | move x=>
  simp only [hop] at h
  split at h
  ·rename_i y hy
   injection h with h;subst h
   simp only [evP,Option.some.injEq] at hv
   subst hv
   exact VK he (.inl hop) hy
  ·cases h
 | assign x=>
  simp only [hop] at h
  split at h
  ·rename_i y hy
   split at h
   ·cases h
   ·injection h with h;subst h
    simp only [evP,Option.some.injEq] at hv
    subst hv
    exact VK he (.inr hop) hy
  ·cases h
 | pick c x z=>
  simp only [hop] at h
  split at h
  ·rename_i c' x' z' hc hx hz
   injection h with h;subst h
   exact QC he hop hc hx hz hv
  ·cases h
 | build t ps=>
  simp only [hop] at h
  split at h
  ·rename_i z pl hz hpl
   split at h
   ·rename_i s hs
    injection h with h;subst h
    exact VL he hop hz hpl hs hv
   ·cases h
  ·cases h
 | nilCheck x=>
  simp only [hop] at h
  split at h
  ·rename_i y hy
   split at h
   ·rename_i nm _
    injection h with h;subst h
    exact KQ he hop hy (fun t ht=>(List.mem_filter.1 ht).2) hv
   ·injection h with h;subst h
    exact Ns he hop hy hv
  ·cases h
 | binOp b t x z ty=>
  simp only [hop] at h
  split at h
  ·rename_i x' z' hx hz
   split at h
   ·injection h with h;subst h
    exact Oi he hop hx hz hv
   ·injection h with h;subst h
    exact Oi he hop hx hz hv
   ·rename_i hu
    split at h
    ·injection h with h;subst h
     exact Oj (ng:=false) he hop hx hz hu hv
    ·injection h with h;subst h
     exact Oj (ng:=true) he hop hx hz hu hv
    ·cases h
   ·rename_i d _ _ _ hu
    split at h
    ·rename_i k hk
     split at h
     ·injection h with h;subst h
      exact Ol (ng:=false) he hop hx hk hu hv
     ·injection h with h;subst h
      exact Ol (ng:=true) he hop hx hk hu hv
     ·cases h
    ·split at h
     ·split at h
      ·rename_i j hi
       split at h
       ·injection h with h;subst h
        exact Om (ng:=false) he hop hx hz hu hi hv
       ·injection h with h;subst h
        exact Om (ng:=true) he hop hx hz hu hi hv
       ·cases h
      ·cases h
     ·split at h
      ·rename_i ks hks
       split at h
       ·injection h with h;subst h
        exact Oo (ng:=false) he hop hx hz hks hv
       ·injection h with h;subst h
        exact Oo (ng:=true) he hop hx hz hks hv
       ·cases h
      ·cases h
     ·cases h
   ·cases h
  ·cases h
 | unOp u t x=>
  simp only [hop] at h
  split at h
  ·rename_i y hy
   injection h with h;subst h
   exact VM he hop hy hv
  ·rename_i y hy
   injection h with h;subst h
   exact VN he hop hy hv
  ·cases h
 | convert s d x=>
  simp only [hop] at h
  split at h
  ·rename_i y k0 k hy hs hd
   injection h with h;subst h
   exact VO he hop hy hs hd hv
  ·rename_i y hy hs hd
   injection h with h;subst h
   exact VP he hop hy hs hd hv
  ·split at h<;>cases h
  ·split at h<;>cases h
  ·repeat' (first | (cases h;done) | split at h)
  ·repeat' (first | (cases h;done) | split at h)
  ·cases h
 | makeInterface t x=>
  simp only [hop] at h
  split at h
  ·cases h
  ·rename_i y d hni hy hu
   injection h with h;subst h
   simp only [evP,Option.some.injEq] at hv
   subst hv
   exact VQ he hop hy hu (fun ms e=>hni ms e)
  ·cases h
 | makeFunc fn x z=>
  simp only [hop] at h
  split at h
  ·rename_i x' z' hx hz
   injection h with h;subst h
   simp only [evP,Option.some.injEq] at hv
   subst hv
   exact VR he hop hx hz
  ·cases h
 | slice t x lo hi mx=>
  simp only [hop] at h
  split at h
  ·rename_i y lo' hi' hu hx hl hh hm
   injection h with h;subst h
   have hmx:mx=none:=by
    cases mx with
    | none=>rfl
    | some m=>simp only [gM] at hm;split at hm<;>cases hm
   subst hmx
   exact VS he hop hx hl hh hu hv
  ·split at h<;>cases h
  ·split at h<;>cases h
  ·cases h
 | fieldAddr t x i=>
  simp only [hop] at h
  split at h
  ·rename_i y off ft hy hf
   split at h
   ·rename_i ag sz hsh
    split at h
    ·rename_i hsz
     injection h with h;subst h
     exact XC he hop hy hf hsh hsz hv
    ·cases h
   ·cases h
  ·cases h
 | field t x i=>
  simp only [hop] at h
  split at h
  ·rename_i y off ft hy hf
   split at h
   ·rename_i ag sz hsh
    injection h with h;subst h
    exact VU he hop hy hf hsh hv
   ·cases h
  ·cases h
 | indexAddr t x i=>
  simp only [hop] at h
  split at h
  ·rename_i y j n el hx hi hu
   split at h
   ·rename_i ag sz hsh
    injection h with h;subst h
    exact VV he hop hx hi hu hsh hv
   ·cases h
  ·rename_i y j el hx hi hu
   split at h
   ·rename_i ag sz hsh
    injection h with h;subst h
    exact VW he hop hx hi hu hsh hv
   ·cases h
  ·cases h
 | index t x i=>
  simp only [hop] at h
  split at h
  ·rename_i y j n el hx hi hu
   split at h
   ·rename_i ag sz hsh
    injection h with h;subst h
    exact VX he hop hx hi hu hsh hv
   ·cases h
  ·rename_i y j hx hi hu
   injection h with h;subst h
   exact VY he hop hx hi hu hv
  ·cases h
 | typeAssert x xt t ok=>
  simp only [hop] at h
  split at h
  ·cases h
  ·rename_i y d z hni hy hu hz
   injection h with h;subst h
   exact VZ he hop hy hu (fun ms e=>hni ms e) hz hv
  ·cases h
 | extract x i=>
  simp only [hop] at h
  split at h
  ·rename_i y hy
   injection h with h;subst h
   exact V2 he hop hy hv
  ·cases h
 | call c=>
  simp only [hop] at h
  split at h
  ·rename_i g xs hc hx
   split at h
   ·rename_i hs
    split at h
    ·rename_i x
     injection h with h;subst h
     simp only [evP,Option.some.injEq] at hv
     subst hv
     obtain ⟨x0,hl,hx0⟩:=kS hx
     exact QD H.Fb he hop hc hs hl hx0
    ·cases h
   ·split at h<;>cases h
  ·split at h<;>cases h
  ·split at h<;>cases h
  ·repeat' (first | (cases h;done) | split at h)
  ·rename_i x hc hx
   have hargs:=kS hx
   obtain ⟨x0,hl,hx0⟩:=hargs
   split at h
   ·rename_i t ht
    split at h
    ·rename_i hu
     injection h with h;subst h
     exact Oq he hop hc hl hx0 ht (.inl ⟨rfl,hu⟩) hv
    ·rename_i el hu
     injection h with h;subst h
     exact Oq he hop hc hl hx0 ht (.inr ⟨rfl,el,hu⟩) hv
    ·cases h
    ·cases h
   ·cases h
  ·rename_i xs hc hx
   injection h with h;subst h
   exact V3 (mx:=true) he hop hc hx hv
  ·rename_i xs hc hx
   injection h with h;subst h
   exact V3 (mx:=false) he hop hc hx hv
  ·repeat' (first | (cases h;done) | split at h)
  ·cases h
 | alloc t=>simp only [hop] at h;repeat' (first | (cases h;done) | split at h)
 | box t x=>simp only [hop] at h;repeat' (first | (cases h;done) | split at h)
 | buildSlice t n ps=>simp only [hop] at h;repeat' (first | (cases h;done) | split at h)
 | load t x=>simp only [hop] at h;repeat' (first | (cases h;done) | split at h)
 | store t x y=>simp only [hop] at h;repeat' (first | (cases h;done) | split at h)
 | makeSlice t l c=>simp only [hop] at h;repeat' (first | (cases h;done) | split at h)
 | makeMap t r=>simp only [hop] at h;repeat' (first | (cases h;done) | split at h)
 | lookup t x k ok=>simp only [hop] at h;repeat' (first | (cases h;done) | split at h)
 | mapUpdate t x k v=>simp only [hop] at h;repeat' (first | (cases h;done) | split at h)
 | insert t x k v=>simp only [hop] at h;repeat' (first | (cases h;done) | split at h)
 | panic x=>simp only [hop] at h;repeat' (first | (cases h;done) | split at h)
 | _=>simp only [hop] at h;cases h
end Go.Ab
/-
  XD: what is read, what is written, what is new.
-/
namespace Go.Ab
open Go.RowKit
variable {P:Program} {w:World} {G:Gm} {L:Loc->Prop} {h:Heap}
theorem jX {a:Addr} {v:Value} (hc:w.cell? a=some v):(load a).run P w=.ok v w:=by
 rw [run_load,hc]
theorem rI {e:AV} {b base o:Nat} {vf:Nat->Value} (hc:∀ j,j < e.cells.length->w.cell? ⟨b,base+j,none⟩=some (vf j)∧(vf j).oneCell'=true)
  (hv:∀ j,j < e.cells.length->az w G L (e.cells.getD j .top) (vf j)) {t:TypeId} {ag:Bool} {sz:Nat} (hsh:shapeOf P t=some (ag,sz)) (hsz:0 < sz) {v:AV} (hg:uR ag sz e o=some v) :
  ∃ x,(loadVar t ⟨b,base+o,none⟩).run P w=.ok x w∧az w G L v x:=by
 have hA:=tM hsh w
 have hS:=run_sizeOf hsh w
 have agg:∀ k,k+sz<=e.cells.length->∃ vs:Array Value,(loadCells ⟨b,base+k,none⟩ sz).run P w=.ok vs w∧cm w G L ((e.cells.drop k).take sz) vs:=fun k hk=>by
  refine ⟨_,run_loadCells (P:=P) w ⟨b,base+k,none⟩ sz (fun j=>vf (k+j)) (fun j hj=>?_),?_,fun i hi=>?_⟩
  ·rw [dR,Nat.add_assoc];exact (hc (k+j) (by omega)).1
  ·simp;omega
  ·simp at hi
   have hi1:i < sz:=by omega
   have e1:((List.range sz).map fun j=>vf (k+j)).toArray.getD i undef=vf (k+i):=by
    simp [Array.getD_eq_getD_getElem?,hi1]
   have e2:((e.cells.drop k).take sz).getD i .top=e.cells.getD (k+i) .top:=by
    simp only [List.getD_eq_getElem?_getD]
    rw [List.getElem?_take_of_lt hi1,List.getElem?_drop]
   rw [e1,e2]
   exact ⟨(hc (k+i) (by omega)).2,hv (k+i) (by omega)⟩
 unfold uR at hg
 split at hg
 ·rename_i c
  obtain ⟨rfl,c2,c3⟩:=c
  injection hg with hg;subst hg
  cases ag with
  | true=>
   obtain ⟨vs,h1,h2⟩:=agg 0 (by omega)
   refine ⟨.agg vs,by simp [loadVar,hA,hS] at h1 ⊢;simp [h1],?_⟩
   cases e<;>simp only [AV.isAgg] at c2<;>try (cases c2;done)
   rename_i cs
   simp only [AV.cells] at c3 h2
   rw [List.drop_zero,List.take_of_length_le (by omega)] at h2
   exact h2.agg
  | false=>
   have h0:0 < e.cells.length:=by omega
   have hcell:=(hc 0 h0).1
   refine ⟨vf 0,by simp only [loadVar,Sem.run_bind,hA,Result.andThen,Bool.false_eq_true,if_false];exact jX hcell,?_⟩
   have:=hv 0 h0
   have e1:e.cells.getD 0 .top=e:=by
    cases e<;>simp only [AV.isAgg] at c2<;>first | (cases c2;done) | rfl | (simp [AV.cells] at h0;done)
   rwa [e1] at this
 ·split at hg
  ·rename_i hag
   subst hag
   split at hg
   ·rename_i c
    injection hg with hg;subst hg
    obtain ⟨vs,h1,h2⟩:=agg o c
    exact ⟨.agg vs,by simp [loadVar,hA,hS,h1],h2.agg⟩
   ·cases hg
  ·rename_i hag
   have hag:ag=false:=by cases ag<;>simp_all
   subst hag
   have hlt:=(List.getElem?_eq_some_iff.1 hg).1
   have hcell:=(hc o hlt).1
   refine ⟨vf o,by simp only [loadVar,Sem.run_bind,hA,Result.andThen,Bool.false_eq_true,if_false];exact jX hcell,?_⟩
   have:=hv o hlt
   rwa [show e.cells.getD o .top=v by simp [List.getD_eq_getElem?_getD,hg]] at this
theorem fR {c:Array Value} {t:TypeId} {b o:Nat} (hb:w.heap[b]?=some (.cells c t (0,0))) (ho:o < c.size):w.cell? ⟨b,o,none⟩=some (c.getD o undef):=by
 rw [cell_of_row w b o c t (0,0) hb,Array.getD_eq_getD_getElem?,Array.getElem?_eq_getElem ho]
 rfl
theorem tN {h:Heap} {l:Nat} {a:Loc} (k:jC h l a):dom h a:=k.2
theorem xY {a:Loc} {n sz' i o:Nat} {x:Value} (hp:az w G (dom h) (.cw a n sz' i o) x) {tb:TypeId} {vw:Bool} {es:List AV} (hB:uT w G a tb sz' vw es) (hn:es.length=n) {u:AV} (hu:es[i]?=some u)
  {t:TypeId} {ag:Bool} {sz:Nat} (hsh:shapeOf P t=some (ag,sz)) (hsz:0 < sz) {v:AV} (hg:uR ag sz u o=some v):∃ y,(Instr.loadAt t x).run P w=.ok y w∧az w G (dom h) v y:=by
 cases hp with
 | cw _ a n sz' i o m b hLa hm hle hbk=>
  obtain ⟨h0,hd⟩:=hB
  have hmn:m=n:=by rw [hm] at h0;injection h0 with h0;omega
  have hbk:=hbk hmn
  have hlt:=(List.getElem?_eq_some_iff.1 hu).1
  have hgd:es.getD i .top=u:=by simp [List.getD_eq_getElem?_getD,hu]
  rcases hd with ⟨h1,h2⟩ | ⟨b',c,h1,h2,h3,h4,h5,h6,h7,h8⟩
  ·rw [hbk] at h1;cases h1
  ·rw [hbk] at h1
   injection h1 with h1;subst h1
   have hcap:i * sz'+sz'<=c.size:=by
    rw [h3]
    have:(i+1) * sz'<=G.cap a * sz':=Nat.mul_le_mul_right _ (by omega)
    rwa [Nat.add_mul,Nat.one_mul] at this
   have hul:u.cells.length=sz':=by have:=(h7 i hlt).1;rwa [hgd] at this
   obtain ⟨y,k1,k2⟩:=rI (P:=P) (w:=w) (G:=G) (L:=bf) (e:=u) (b:=b) (base:=i * sz') (o:=o) (vf:=fun j=>c.getD (i * sz'+j) undef)
    (fun j hj=>⟨fR h2 (by omega),((h7 i hlt).2 j (by omega)).1⟩) (fun j hj=>by have:=((h7 i hlt).2 j (by omega)).2;rwa [hgd] at this) hsh hsz hg
   exact ⟨y,by simp [Instr.loadAt,Instr.sureAddr,k1],k2.wider fun _ e=>e.elim⟩
theorem KR {a:Loc} {n sz' i o:Nat} {x:Value} (hp:az w G (dom h) (.cw a n sz' i o) x) {tb:TypeId} {es:List AV} (hB:Qz w G (jC h a.1) a tb sz' es) (hn:es.length=n) {u:AV} (hu:es[i]?=some u)
  {t:TypeId} {ag:Bool} {sz:Nat} (hsh:shapeOf P t=some (ag,sz)) (hsz:0 < sz) {v:AV} (hg:uR ag sz u o=some v):∃ y,(Instr.loadAt t x).run P w=.ok y w∧az w G (dom h) v y:=by
 cases hp with
 | cw _ a n sz' i o m b hLa hm hle hbk=>
  obtain ⟨h0,hd⟩:=hB
  have hmn:m=n:=by rw [hm] at h0;injection h0 with h0;omega
  have hbk:=hbk hmn
  have hlt:=(List.getElem?_eq_some_iff.1 hu).1
  have hgd:es.getD i .top=u:=by simp [List.getD_eq_getElem?_getD,hu]
  rcases hd with ⟨h1,h2⟩ | ⟨b',c,h1,h2,h3,h4,h5,h6,h7,h8⟩
  ·rw [hbk] at h1;cases h1
  ·rw [hbk] at h1
   injection h1 with h1;subst h1
   have hcap:i * sz'+sz'<=c.size:=by
    rw [h3]
    have:(i+1) * sz'<=G.cap a * sz':=Nat.mul_le_mul_right _ (by omega)
    rwa [Nat.add_mul,Nat.one_mul] at this
   have hul:u.cells.length=sz':=by have:=(h7 i hlt).1;rwa [hgd] at this
   obtain ⟨y,k1,k2⟩:=rI (P:=P) (w:=w) (G:=G) (L:=jC h a.1) (e:=u) (b:=b) (base:=i * sz') (o:=o) (vf:=fun j=>c.getD (i * sz'+j) undef)
    (fun j hj=>⟨fR h2 (by omega),((h7 i hlt).2 j (by omega)).1⟩) (fun j hj=>by have:=((h7 i hlt).2 j (by omega)).2;rwa [hgd] at this) hsh hsz hg
   exact ⟨y,by simp [Instr.loadAt,Instr.sureAddr,k1],k2.wider fun _=>tN⟩
theorem uD (s:Sim w G h) {p:AV} {x:Value} (hp:az w G (dom h) p x) {t:TypeId} {ag:Bool} {sz:Nat} (hsh:shapeOf P t=some (ag,sz)) (hsz:0 < sz) {v:AV}
  (hg:kQ ag sz h p=some v):∃ y,(Instr.loadAt t x).run P w=.ok y w∧az w G (dom h) v y:=by
 unfold kQ at hg
 split at hg
 ·rename_i a o
  split at hg
  ·rename_i tb fz u hb
   cases hp with
   | ptr _ a o b hLa hm hbk=>
    obtain ⟨b',c,h1,h2,h3,h4,h5,h6⟩:=s.blk a _ hb
    rw [hbk] at h2
    injection h2 with h2;subst h2
    obtain ⟨y,k1,k2⟩:=rI (P:=P) (w:=w) (G:=G) (L:=jC h a.1) (e:=u) (b:=b) (base:=0) (o:=o) (vf:=fun j=>c.getD j undef)
     (fun j hj=>⟨by rw [Nat.zero_add];exact fR h3 (by omega),(h5 j (by omega)).1⟩) (fun j hj=>(h5 j (by omega)).2) hsh hsz hg
    refine ⟨y,?_,k2.wider fun _=>tN⟩
    rw [Nat.zero_add] at k1
    simp [Instr.loadAt,Instr.sureAddr,k1]
  ·cases hg
 ·rename_i a n sz' i o
  split at hg
  ·rename_i tb s' vw es hb
   split at hg
   ·rename_i hn
    obtain ⟨hn,rfl⟩:=hn
    split at hg
    ·rename_i u hu
     exact xY hp (s.blk a _ hb) hn hu hsh hsz hg
    ·cases hg
   ·cases hg
  ·rename_i tb s' k ti si out es hb
   split at hg
   ·rename_i hn
    obtain ⟨hn,rfl⟩:=hn
    split at hg
    ·rename_i u hu
     exact xY hp (s.blk a _ hb).1 hn hu hsh hsz hg
    ·cases hg
   ·cases hg
  ·rename_i tb s' es hb
   split at hg
   ·rename_i hn
    obtain ⟨hn,rfl⟩:=hn
    split at hg
    ·rename_i u hu
     exact KR hp (s.blk a _ hb) hn hu hsh hsz hg
    ·cases hg
   ·cases hg
  ·cases hg
 ·rename_i u o
  cases hp with
  | cV _ u o b off vf hc hv=>
   obtain ⟨y,k1,k2⟩:=rI (P:=P) (w:=w) (G:=G) (L:=bf) (e:=u) (b:=b) (base:=off) (o:=o) (vf:=vf)
     (fun j hj=>⟨(hc j hj).1,(hc j hj).2.2⟩) hv hsh hsz hg
   exact ⟨y,by simp [Instr.loadAt,Instr.sureAddr,k1],k2.wider fun _ e=>e.elim⟩
 ·cases hg
theorem nV (s:Sim w G h) (hn:h≠[]) {v:AV} {c:Array Value} (hv:cm w G (dom h) v.cells c) (t:TypeId) :
  Sim (w.alloc (.cells c t)) (G.at_ (hnext h) (some w.heap.size) none 0) (hnew h (.box t false v)) ∧
  Goes w G h (w.alloc (.cells c t)) (G.at_ (hnext h) (some w.heap.size) none 0) (hnew h (.box t false v)) ∧
  az (w.alloc (.cells c t)) (G.at_ (hnext h) (some w.heap.size) none 0) (dom (hnew h (.box t false v))) (.ptr (hnext h) 0) (.pointer (some ⟨w.heap.size,0,none⟩)):=by
 have hb:∀ k,k < w.heap.size->(w.alloc (.cells c t)).heap[k]?=w.heap[k]?:=fun k hk=>heap_alloc_old w _ hk
 have g:=Goes.new (w':=w.alloc (.cells c t)) (B:=.box t false v) (b:=some w.heap.size) (n:=none) (c:=0) s hn rfl rfl rfl (by simp) hb (fun k hk=>by injection hk with hk;omega)
 refine ⟨s.new hn (by simp) hb (fun k hk=>by injection hk with hk;omega) ?_,g,?_⟩
 ·refine ⟨w.heap.size,c,by simp [Gm.at_],by simp [Gm.at_],heap_alloc_new w _,hv.1,fun j hj=>?_,fun o ho=>?_⟩
  ·have hj':j < v.cells.length:=by rw [<-hv.1];exact hj
   refine ⟨(hv.2 j hj').1,(hv.2 j hj').2.mono g.imm fun a ha=>⟨⟨?_,(g.loc a ha).1⟩,(g.loc a ha).2⟩⟩
   obtain ⟨B,hB⟩:=EY ha
   have h1:=jy hB
   have h2:=DR hn
   omega
  ·have:=s.imm _ _ ho
   omega
 ·exact .ptr _ _ _ _ ((cj hn _ _).2 (.inl rfl)) (by simp [Gm.at_]) (by simp [Gm.at_])
theorem Ng (s:Sim w G h) (hn:h≠[]) {a:Act} {o:Oper} {t:TypeId} {z:AV} (ho:o.op=.alloc t) (hz:zeroOf P t=some z) (hpos:0 < z.cells.length) :
  ∃ x w' G',(execOp a.eval o).run P w=.ok (.value x) w'∧Sim w' G' (hnew h (.box t false z))∧Goes w G h w' G' (hnew h (.box t false z)) ∧
   az w' G' (dom (hnew h (.box t false z))) (.ptr (hnext h) 0) x:=by
 obtain ⟨i,zv,hi,hzv,hzz,hzl⟩:=bR hz
 have hzr:az w G (dom h) z zv:=by rw [hzz];exact dB zv
 obtain ⟨k1,k2,k3⟩:=nV s hn (hzr.cM hpos) t
 refine ⟨_,_,_,?_,k1,k2,k3⟩
 simp [execOp,ho,Instr.alloc,zeroValue,typeInfo,hi,hzv,newVar,newRow]
theorem Vo (s:Sim w G h) (hn:h≠[]) {e:Env} {a:Act} (he:aB w G (dom h) e a) {o:Oper} {t:TypeId} {x:Operand} {y:Opd} (ho:o.op=.box t x) (hx:aI x=some y)
  (hpos:0 < (y.ev e).cells.length) :
  ∃ x w' G',(execOp a.eval o).run P w=.ok (.value x) w'∧Sim w' G' (hnew h (.box t false (y.ev e)))∧Goes w G h w' G' (hnew h (.box t false (y.ev e))) ∧
   az w' G' (dom (hnew h (.box t false (y.ev e)))) (.ptr (hnext h) 0) x:=by
 obtain ⟨k1,k2,k3⟩:=nV s hn ((aC he hx).cM hpos) t
 refine ⟨_,_,_,?_,k1,k2,k3⟩
 simp [execOp,ho,Instr.box,newVar,newRow]
theorem lS {e v e':AV} {o:Nat} (hh:EL e o v=some e') (hpos:0 < v.cells.length):e'.cells=e.cells.take o++v.cells++e.cells.drop (o+v.cells.length)∧o+v.cells.length<=e.cells.length:=by
 unfold EL at hh
 split at hh
 ·rename_i c
  obtain ⟨rfl,c2,c3⟩:=c
  injection hh with hh;subst hh
  exact ⟨by simp [c3],by omega⟩
 ·split at hh
  ·split at hh
   ·rename_i c
    injection hh with hh;subst hh
    exact ⟨rfl,c⟩
   ·cases hh
  ·cases hh
theorem lT {w:World} {b:Nat} {c:Array Value} {t:TypeId} (hb:w.heap[b]?=some (.cells c t (0,0))) (c':Array Value):(w.setRow b c').heap[b]?=some (.cells c' t (0,0)):=
 setRow_heap w b c c' t (0,0) hb
theorem fE {x:Value} {v:AV} (hv:cm w G L v.cells x.cells) {c:Array Value} {t0:TypeId} {b k:Nat} (hb:w.heap[b]?=some (.cells c t0 (0,0))) (hfit:k+v.cells.length<=c.size)
  {t:TypeId} {ag:Bool} {sz:Nat} (hsh:shapeOf P t=some (ag,sz)) (hsz:v.cells.length=sz) :
  (storeVar t ⟨b,k,none⟩ x).run P w=.ok () (w.setRow b (c.toList.take k++x.cells.toList++c.toList.drop (k+v.cells.length)).toArray):=by
 have hS:=run_sizeOf hsh w
 have hl:x.cells.toList.length=v.cells.length:=by rw [Array.length_toList];exact hv.1
 have h1:∀ u∈x.cells.toList,u.oneCell'=true:=fun u hu=>by
  obtain ⟨i,hi,rfl⟩:=List.getElem_of_mem hu
  have:=(hv.2 i (by omega)).1
  rw [Array.getD_eq_getD_getElem?,Array.getElem?_eq_getElem (by simpa using hi)] at this
  simpa using this
 have:=run_storeCells_at P b k t0 x.cells.toList 0 c w hb (by simp only [Nat.add_zero];omega) h1
 simp only [Nat.add_zero,hl] at this
 unfold storeVar
 have hs2:x.cells.size=sz:=by rw [hv.1,hsz]
 simp only [Sem.run_bind,hS,Result.andThen,hs2,ne_eq,not_true_eq_false,if_false,this]
theorem eO {α:Type} (d:α) (l m:List α) (k m' j:Nat) (hm:m.length=m') (hfit:k+m'<=l.length) :
  (l.take k++m++l.drop (k+m')).getD j d=if k<=j∧j < k+m' then m.getD (j - k) d else l.getD j d:=by
 subst hm
 simp only [List.getD_eq_getElem?_getD]
 by_cases c:k<=j∧j < k+m.length
 ·rw [if_pos c,List.append_assoc,List.getElem?_append_right (by simp;omega),List.getElem?_append_left (by simp;omega)]
  simp only [List.length_take]
  rw [Nat.min_eq_left (by omega)]
 ·rw [if_neg c]
  by_cases h1:j < k
  ·rw [List.append_assoc,List.getElem?_append_left (by simp;omega),List.getElem?_take_of_lt h1]
  ·rw [List.getElem?_append_right (by simp;omega),List.getElem?_drop]
   congr 2
   simp
   omega
theorem dN {α:Type} (l m:List α) (k m':Nat) (hm:m.length=m') (hfit:k+m'<=l.length):(l.take k++m++l.drop (k+m')).length=l.length:=by
 subst hm
 simp;omega
theorem gD {α:Type} (d:α) (l:List α) (j:Nat):l.toArray.getD j d=l.getD j d:=by
 simp [Array.getD_eq_getD_getElem?,List.getD_eq_getElem?_getD]
theorem getD_toList {α:Type} (d:α) (c:Array α) (j:Nat):c.toList.getD j d=c.getD j d:=by
 simp [Array.getD_eq_getD_getElem?,List.getD_eq_getElem?_getD]
theorem iE {p:Loc->Bool} {v:AV} (h:v.aJ p=true) {j:Nat} (hj:j < v.cells.length):(v.cells.getD j .top).aJ p=true:=by
 cases v
 case agg cs=>simp only [AV.aJ] at h;exact dK h j hj
 case top=>simp [AV.cells] at hj
 case tup=>simp [AV.cells] at hj
 all_goals
  have hz:j=0:=by simp only [AV.cells,List.length_singleton] at hj;omega
  subst hz
  exact h
theorem EZ (s:Sim w G h) {p v:AV} {px vx:Value} (hp:az w G (dom h) p px) (hv:az w G (dom h) v vx) (hpos:0 < v.cells.length) {t:TypeId} {ag:Bool}
  (hsh:shapeOf P t=some (ag,v.cells.length)) {h':Heap} (hst:vh h p v=some h') :
  ∃ w',(Instr.storeAt t px vx).run P w=.ok () w'∧Sim w' G h'∧Goes w G h w' G h':=by
 have hvc:=hv.cM hpos
 have hvl:vx.cells.toList.length=v.cells.length:=by rw [Array.length_toList];exact hvc.1
 unfold vh at hst
 split at hst
 ·rename_i a o
  split at hst
  ·rename_i tb fz u hb
   split at hst
   ·rename_i c0
    obtain ⟨hfz,KJ⟩:=c0
    subst hfz
    split at hst
    ·rename_i u' hu'
     injection hst with hst;subst hst
     obtain ⟨hcells,hfit⟩:=lS hu' hpos
     cases hp with
     | ptr _ a o b hLa hm hbk=>
      obtain ⟨b',c,h1,h2,h3,h4,h5,h6⟩:=s.blk a _ hb
      rw [hbk] at h2
      injection h2 with h2;subst h2
      have hrun:=fE (P:=P) (k:=o) hvc h3 (by omega) hsh rfl
      have hw:∀ k,k≠b->(w.setRow b (c.toList.take o++vx.cells.toList++c.toList.drop (o+v.cells.length)).toArray).heap[k]?=w.heap[k]?:=fun k hk=>setRow_other w b k _ hk
      have hI:aM w G (w.setRow b (c.toList.take o++vx.cells.toList++c.toList.drop (o+v.cells.length)).toArray) G:=fun k q hi=>by
       refine ⟨hi,World.cell?_of_block (hw k fun e=>?_)⟩
       subst e
       have:=h6 q hi
       cases this
      have hA:∀ a,Agree G G a:=Agree.refl G
      refine ⟨_,by simpa [Instr.storeAt,Instr.sureAddr] using hrun,s.update hLa (by simp) (fun k _ hk=>hw k fun e=>hk (by rw [e];exact hbk)) (fun _ _=>⟨rfl,rfl,rfl⟩) (hA a) hI (fun _ _ hi=>.inl hi) (fun _ hk=>.inl hk) ?_,
       Goes.update hLa rfl rfl rfl (by simp) (fun k _ hk=>hw k fun e=>hk (by rw [e];exact hbk)) (fun _ _=>⟨rfl,rfl,rfl⟩) (hA a) hI (fun _ hk=>.inl hk) (fun _ _ hk=>.inl hk)⟩
      refine ⟨b,_,h1,hbk,lT h3 _,?_,fun j hj=>?_,fun q hq=>absurd (h6 q hq) (by simp)⟩
      ·rw [hcells]
       have:=dN u.cells v.cells o _ rfl hfit
       simp only [List.size_toArray]
       rw [this]
       rw [dN _ _ _ _ hvl (by have:=Array.length_toList (xs:=c);omega),Array.length_toList (xs:=c)]
       omega
      ·simp only [List.size_toArray] at hj
       have hj2:j < c.size:=by
        rw [dN _ _ _ _ hvl (by have:=Array.length_toList (xs:=c);omega),Array.length_toList (xs:=c)] at hj
        exact hj
       rw [gD,hcells,eO _ _ _ _ _ _ rfl hfit]
       rw [eO _ _ _ _ _ _ hvl (by have:=Array.length_toList (xs:=c);omega)]
       by_cases cc:o<=j∧j < o+v.cells.length
       ·rw [if_pos cc,if_pos cc,getD_toList]
        obtain ⟨k1,k2⟩:=hvc.2 (j - o) (by omega)
        refine ⟨k1,k2.goes hI (p:=fun q=>decide (q.1<=a.1)) ?_ fun q hq hpq=>⟨⟨by simpa using hpq,(aY h a q _).2 hq⟩,hA q⟩⟩
        exact iE KJ (by omega)
       ·rw [if_neg cc,if_neg cc,getD_toList]
        obtain ⟨k1,k2⟩:=h5 j hj2
        exact ⟨k1,k2.mono hI fun q hq=>⟨⟨hq.1,(aY h a q _).2 hq.2⟩,hA q⟩⟩
    ·cases hst
   ·cases hst
  ·cases hst
 ·rename_i a n sz i o
  split at hst
  ·rename_i tb s' vw es hb
   split at hst
   ·rename_i c0
    obtain ⟨hvw,hn,rfl,hpure⟩:=c0
    subst hvw
    split at hst
    ·rename_i u hu
     split at hst
     ·rename_i u' hu'
      injection hst with hst;subst hst
      obtain ⟨hcells,hfit⟩:=lS hu' hpos
      cases hp with
      | cw _ a n sz i o m b hLa hm hle hbk=>
       obtain ⟨h0,hd⟩:=s.blk a _ hb
       have hmn:m=n:=by rw [hm] at h0;injection h0 with h0;omega
       have hbk:=hbk hmn
       have hlt:=(List.getElem?_eq_some_iff.1 hu).1
       have hgd:es.getD i .top=u:=by simp [List.getD_eq_getElem?_getD,hu]
       rcases hd with ⟨h1,h2⟩ | ⟨b',c,h1,h2,h3,h4,h5,h6,h7,h8⟩
       ·rw [hbk] at h1;cases h1
       ·rw [hbk] at h1
        injection h1 with h1;subst h1
        have hul:u.cells.length=sz:=by have:=(h7 i hlt).1;rwa [hgd] at this
        have hcap:i * sz+sz<=c.size:=by
         rw [h3]
         have:(i+1) * sz<=G.cap a * sz:=Nat.mul_le_mul_right _ (by omega)
         rwa [Nat.add_mul,Nat.one_mul] at this
        have hrun:=fE (P:=P) (k:=i * sz+o) hvc h2 (by omega) hsh rfl
        have hw:∀ k,k≠b->(w.setRow b (c.toList.take (i * sz+o)++vx.cells.toList++c.toList.drop (i * sz+o+v.cells.length)).toArray).heap[k]?=w.heap[k]?:=fun k hk=>setRow_other w b k _ hk
        have hI:aM w G (w.setRow b (c.toList.take (i * sz+o)++vx.cells.toList++c.toList.drop (i * sz+o+v.cells.length)).toArray) G:=fun k q hi=>by
         refine ⟨hi,World.cell?_of_block (hw k fun e=>?_)⟩
         subst e
         have:=(h8 q hi).1
         cases this
        have hA:∀ a,Agree G G a:=Agree.refl G
        refine ⟨_,by simpa [Instr.storeAt,Instr.sureAddr] using hrun,s.update hLa (by simp) (fun k _ hk=>hw k fun e=>hk (by rw [e];exact hbk)) (fun _ _=>⟨rfl,rfl,rfl⟩) (hA a) hI (fun _ _ hi=>.inl hi) (fun _ hk=>.inl hk) ?_,
         Goes.update hLa rfl rfl rfl (by simp) (fun k _ hk=>hw k fun e=>hk (by rw [e];exact hbk)) (fun _ _=>⟨rfl,rfl,rfl⟩) (hA a) hI (fun _ hk=>.inl hk) (fun _ _ hk=>.inl hk)⟩
        refine ⟨by rw [List.length_set];exact h0,.inr ⟨b,_,hbk,lT h2 _,?_,h4,by rw [List.length_set];exact h5,h6,fun i' hi'=>?_,fun q hq=>absurd (h8 q hq).1 (by simp)⟩⟩
        ·simp only [List.size_toArray]
         rw [dN _ _ _ _ hvl (by have:=Array.length_toList (xs:=c);omega),Array.length_toList (xs:=c)]
         exact h3
        ·rw [List.length_set] at hi'
         have hg':(es.set i u').getD i' .top=if i=i' then u' else es.getD i' .top:=by
          simp only [List.getD_eq_getElem?_getD,List.getElem?_set]
          by_cases e:i=i'
          ·simp [e,hi']
          ·simp [e]
         have QA:u'.cells.length=sz:=by rw [hcells,dN _ _ _ _ rfl hfit,hul]
         refine ⟨?_,fun j hj=>?_⟩
         ·rw [hg']
          split
          ·exact QA
          ·exact (h7 i' hi').1
         ·rw [gD,eO _ _ _ _ _ _ hvl (by have:=Array.length_toList (xs:=c);omega),hg']
          by_cases e:i=i'
          ·subst e
           rw [if_pos rfl,hcells,eO _ _ _ _ _ _ rfl hfit]
           by_cases cc:o<=j∧j < o+v.cells.length
           ·rw [if_pos cc,if_pos (by omega),getD_toList]
            obtain ⟨k1,k2⟩:=hvc.2 (j - o) (by omega)
            rw [show i * sz+j - (i * sz+o)=j - o by omega]
            refine ⟨k1,k2.goes hI (p:=fun q=>false) ?_ fun q _ hpq=>by cases hpq⟩
            exact iE hpure (by omega)
           ·rw [if_neg cc,if_neg (by omega),getD_toList]
            obtain ⟨k1,k2⟩:=(h7 i hi').2 j hj
            rw [hgd] at k2
            exact ⟨k1,k2.mono hI fun q hq=>hq.elim⟩
          ·rw [if_neg e]
           have hout:¬ (i * sz+o<=i' * sz+j∧i' * sz+j < i * sz+o+v.cells.length):=by
            rintro ⟨q1,q2⟩
            rcases Nat.lt_or_gt_of_ne e with q | q
            ·have:(i+1) * sz<=i' * sz:=Nat.mul_le_mul_right _ q
             rw [Nat.add_mul,Nat.one_mul] at this
             omega
            ·have:(i'+1) * sz<=i * sz:=Nat.mul_le_mul_right _ q
             rw [Nat.add_mul,Nat.one_mul] at this
             omega
           rw [if_neg hout,getD_toList]
           obtain ⟨k1,k2⟩:=(h7 i' hi').2 j hj
           exact ⟨k1,k2.mono hI fun q hq=>hq.elim⟩
     ·cases hst
    ·cases hst
   ·cases hst
  ·cases hst
 ·cases hst
end Go.Ab
