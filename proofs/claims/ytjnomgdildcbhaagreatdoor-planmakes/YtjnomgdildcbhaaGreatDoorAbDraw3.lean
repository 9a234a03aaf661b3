/-
  Regions that draw their order: whatever order is drawn.
-/
import Derived.Test.YtjnomgdildcbhaaGreatDoorAbDraw
set_option linter.all false
namespace Go.Ab
open Go.RowKit
variable{P:Program}
structure Fit (ops:Array Oper)(ds:List DO):Prop where
 op:∀(k:Nat) (d:DO),ds[k]?=some d->∃o:Oper,ops[d.ix]?=some o∧(∀e∈o.after,Region.binds .any e=true->∃(p:Nat) (c:DO),p<k∧ds[p]?=some c∧c.ix=e.on) ∧
  (∀i∈d.anc,∃e∈o.after,Region.binds .any e=true∧(e.on=i∨∃(p:Nat) (c:DO),p<k∧ds[p]?=some c∧c.ix=e.on∧i∈c.anc))
 pair:∀(p q:Nat) (c d:DO),p<q->ds[p]?=some c->ds[q]?=some d->iC d c=true
 al:∀(p q k:Nat) (b c d:DO) (t:Nat),p<q->q<k->ds[p]?=some b->ds[q]?=some c->ds[k]?=some d->loud b.co=true->mz c.co=true->c.co.dst=some t->t∈d.looks->b.ix∈d.anc
theorem Fit.snoc{ops:Array Oper}{l:List DO}{d:DO}{o:Oper}(h:Fit ops l)(ho:ops[d.ix]?=some o)
  (h1:∀e∈o.after,Region.binds .any e=true->∃c∈l,c.ix=e.on)
  (h2:∀i∈d.anc,∃e∈o.after,Region.binds .any e=true∧(e.on=i∨∃c∈l,c.ix=e.on∧i∈c.anc))
  (h3:∀c∈l,iC d c=true)
  (h4:∀(p q:Nat) (b c:DO) (t:Nat),p<q->l[p]?=some b->l[q]?=some c->loud b.co=true->mz c.co=true->c.co.dst=some t->t∈d.looks->b.ix∈d.anc):Fit ops (l++[d]):=by
 have pos:∀c∈l,∃p,p<l.length∧(l++[d])[p]?=some c:=λc hc=>by
  obtain⟨p,hp⟩:=List.getElem?_of_mem hc;have hlt:=(aft.1 hp).1;exact⟨p,hlt,by rw[afF hlt];exact hp⟩
 refine⟨λk c hc=>?_,λp q c b hpq hc hb=>?_,λp q k b c x t hpq hqk hb hc hx hlb hal hct ht=>?_⟩
 ·by_cases hk:k<l.length
  ·rw[afF hk]at hc;obtain⟨o',k1,k2,k3⟩:=h.op k c hc;refine⟨o',k1,λe he hb=>?_,λi hi=>?_⟩
   ·obtain⟨p,c',q1,q2,q3⟩:=k2 e he hb;exact⟨p,c',q1,by rw[afF (by omega)];exact q2,q3⟩
   ·obtain⟨e,q1,q2,q3⟩:=k3 i hi;refine⟨e,q1,q2,q3.imp id ?_⟩;rintro⟨p,c',q1,q2,q3⟩;exact⟨p,c',q1,by rw[afF (by omega)];exact q2,q3⟩
  ·have hk':k=l.length:=by
    have:=(aft.1 hc).1;simp at this;omega
   subst hk';simp at hc;subst hc;refine⟨o,ho,λe he hb=>?_,λi hi=>?_⟩
   ·obtain⟨c',q1,q2⟩:=h1 e he hb;obtain⟨p,q3,q4⟩:=pos c' q1;exact⟨p,c',q3,q4,q2⟩
   ·obtain⟨e,q1,q2,q3⟩:=h2 i hi;refine⟨e,q1,q2,q3.imp id ?_⟩;rintro⟨c',q1,q2,q3⟩;obtain⟨p,q4,q5⟩:=pos c' q1;exact⟨p,c',q4,q5,q2,q3⟩
 ·by_cases hq:q<l.length
  ·rw[afF hq]at hb;rw[afF (by omega)]at hc;exact h.pair p q c b hpq hc hb
  ·have hq':q=l.length:=by
    have:=(aft.1 hb).1;simp at this;omega
   subst hq';simp at hb;subst hb;rw[afF hpq]at hc;exact h3 c (afB hc)
 ·by_cases hk:k<l.length
  ·rw[afF hk]at hx;rw[afF (by omega)]at hb hc;exact h.al p q k b c x t hpq hqk hb hc hx hlb hal hct ht
  ·have hk':k=l.length:=by
    have:=(aft.1 hx).1;simp at this;omega
   subst hk';simp at hx;subst hx;rw[afF (by omega)]at hb hc;exact h4 p q b c t hpq hb hc hlb hal hct ht
theorem C4{d:DO}:∀(l9:List DO),A9 d l9=true->∀(p q:Nat) (b c:DO) (t:Nat),p<q->l9.reverse[p]?=some b->l9.reverse[q]?=some c->loud b.co=true->mz c.co=true->c.co.dst=some t->t∈d.looks->b.ix∈d.anc
 | [],_,p,q,b,c,t,hpq,hb,_,_,_,_,_=>by simp at hb
 |x::r,h,p,q,b,c,t,hpq,hb,hc,hlb,hal,hct,ht=>by
  simp only[A9,afC]at h;rw[List.reverse_cons]at hb hc;have hq:=(aft.1 hc).1;simp at hq;rw[afF (by simp;omega)]at hb;by_cases hqr:q<r.length
  ·rw[afF (by simpa using hqr)]at hc;exact C4 r h.2 p q b c t hpq hb hc hlb hal hct ht
  ·have hqe:q=r.reverse.length:=by simp;omega
   subst hqe;simp at hc;subst hc;have h1:=h.1;simp only[hal,hct,Bool.not_true,agy,agp,agQ,afL,agu]at h1;rcases h1 with h1|h1
   ·have:d.looks.contains t=true:=by simpa using ht
    rw[this]at h1;cases h1
   ·rcases h1 b (by simpa using afB hb) with h2|h2
    ·rw[hlb]at h2;cases h2
    ·exact h2
theorem MA{ops:Array Oper}:∀(ds l9:List DO),okD ops ds l9=true->Fit ops l9.reverse->Fit ops (l9.reverse++ds)∧∀i,i<ops.size->∃d∈l9.reverse++ds,d.ix=i
 | [],l9,h,hf=>by
  simp only[okD,afL,List.mem_range,List.any_eq_true,beq_iff_eq]at h;refine⟨by simpa using hf,λi hi=>?_⟩;obtain⟨d,h1,h2⟩:=h i hi;exact⟨d,by simpa using h1,h2⟩
 |d::r,l9,h,hf=>by
  simp only[okD]at h;cases ho:ops[d.ix]? with
  |none=>rw[ho]at h;simp at h
  |some o=>
   rw[ho]at h;simp only[afC,afL,List.any_eq_true,agp,agQ,beq_iff_eq,agu]at h;obtain⟨⟨⟨h1,h2⟩,h3⟩,h5,h4⟩:=h;have:=MA r (d::l9) h4 (by
    rw[List.reverse_cons];refine hf.snoc ho (λe he hb=>?_) (λi hi=>?_) (λc hc=>h3 c (by simpa using hc)) (C4 l9 h5)
    ·rcases h1 e (by simpa using he) with h1|⟨c,h1,h5⟩
     ·rw[hb]at h1;cases h1
     ·exact⟨c,by simpa using h1,h5⟩
    ·obtain⟨e,k1,k2,k3⟩:=h2 i hi;refine⟨e,by simpa using k1,k2,k3.imp id ?_⟩;rintro⟨c,q1,q2,q3⟩;exact⟨c,by simpa using q1,q2,q3⟩)
   simpa using this
theorem tj{d c:DO}(h:iC d c=true):c.ix≠d.ix:=by
 simp only[iC,afC,bne_iff_ne,ne_eq]at h;exact h.1.1
theorem mA{d c:DO}(h:iC d c=true){t:Nat}(h1:c.co.dst=some t):d.co.dst≠some t:=λh2=>by
 simp only[iC,afC,h1,h2,bne_iff_ne,ne_eq]at h;exact h.2 trivial
theorem Gj{d c:DO}(h:iC d c=true){t:Nat}(h1:c.co.dst=some t)(h2:t∈d.looks):c.ix∈d.anc:=by
 simp only[iC,afC,agp,h1,agu]at h;rcases h.1.2 with h|h
 ·exact h
 ·have:=h.1.1.1;simp[h2]at this
theorem DB{d c:DO}(h:iC d c=true){t:Nat}(h1:d.co.dst=some t)(h2:t∈c.looks):c.ix∈d.anc:=by
 simp only[iC,afC,agp,h1,agu]at h;rcases h.1.2 with h|h
 ·exact h
 ·have:=h.1.1.2;simp[h2]at this
theorem Ah{d c:DO}(h:iC d c=true)(h1:loud c.co=true):c.ix∈d.anc∨mz d.co=true:=by
 simp only[iC,afC,agp,agu]at h;rcases h.1.2 with h|h
 ·exact .inl h
 ·have:=h.1.2;simp only[h1,Bool.not_true,afA,false_or]at this;exact .inr this
theorem Oe{d c:DO}(h:iC d c=true)(h1:loud d.co=true)(h2:Gh c.co=true)(h3:c.ix∉d.anc):c.ix∈d.re:=by
 simp only[iC,afC,agp,agu]at h;rcases h.1.2 with h|h
 ·exact absurd h h3
 ·have:=h.2;simpa[h1,h2]using this
theorem C5{ops:Array Oper}{ds:List DO}(fit:Fit ops ds){D:Nat->Prop}(clo:∀(j:Nat) (o:Oper),ops[j]?=some o->D j->∀e∈o.after,Region.binds .any e=true->D e.on) :
  ∀(k:Nat) (d:DO),ds[k]?=some d->D d.ix->∀i∈d.anc,D i:=by
 intro k
 induction k using Nat.strongRecOn with
 |ind k ih=>
  intro d hd hD i hi;obtain⟨o,ho,_,h2⟩:=fit.op k d hd;obtain⟨e,he,hb,h3⟩:=h2 i hi;have hon:=clo _ o ho hD e he hb;rcases h3 with rfl|⟨p,c,h4,h5,h6,h7⟩
  ·exact hon
  ·exact ih p h4 c h5 (h6▸hon) i h7
section
variable{K:Cfg}{O:Orc}{ds:List DO}{st:St}{ex:Ex}{st':St}{V:Nat->AV}{E:Nat->Env}{Hp:Nat->Heap}{m:Nat}{ops:Array Oper}
theorem Trace.write(T:Trace K O ds [] st ex st' V E Hp m)(fit:Fit ops ds){p:Nat}{c:DO}(hc:ds[p]?=some c){t:Nat}(ht:c.co.dst=some t):∀k,p<k->k<=m->get (E k) t=V p
 | 0,h,_=>by omega
 |k+1,h,hk=>by
  have hlt:k<ds.length:=by have:=T.le;omega
  obtain⟨d,hd⟩:∃d,ds[k]?=some d:=⟨ds[k],afD hlt⟩
  rw[T.env k d (by omega) hd];by_cases hpk:p=k
  ·subst hpk;rw[hc]at hd;injection hd with hd
   subst hd;simp only[put,ht,wU,if_true]
  ·have hne:=mA (fit.pair p k c d (by omega) hc hd) ht;have:=T.write fit hc ht k (by omega) (by omega);cases hdd:d.co.dst with
   |none=>simpa[put]using this
   |some u=>
    simp only[put,wU];rw[if_neg (λe=>hne (by rw[hdd,e]))];exact this
theorem Trace.still(T:Trace K O ds [] st ex st' V E Hp m){t:Nat}:∀k,k<=m->(∀(p:Nat) (c:DO),p<k->ds[p]?=some c->c.co.dst≠some t)->get (E k) t=get st.env t
 | 0,_,_=>by rw[T.e0]
 |k+1,hk,h=>by
  have hlt:k<ds.length:=by have:=T.le;omega
  obtain⟨d,hd⟩:∃d,ds[k]?=some d:=⟨ds[k],afD hlt⟩
  rw[T.env k d (by omega) hd];have hne:=h k d (by omega) hd;have:=T.still k (by omega) λp c hp hc=>h p c (by omega) hc
  cases hdd:d.co.dst with
  |none=>simpa[put]using this
  |some u=>
   simp only[put,wU];rw[if_neg (λe=>hne (by rw[hdd,e]))];exact this
theorem C3.heap{d:DO}{e:Env}{h h':Heap}{v:AV}(s:C3 K O d e h v h')(hl:loud d.co=false):h'=h:=by
 rcases s with⟨_,_,h1⟩|⟨_,⟨q,_,_,h1⟩|⟨q,_,_,_,h1⟩|⟨q,h1,h2,_⟩⟩
 ·exact h1
 ·exact h1
 ·exact h1
 ·simp[loud,h1,h2]at hl
theorem Trace.heap(T:Trace K O ds [] st ex st' V E Hp m){k:Nat}:∀j,k<=j->j<=m->(∀(i:Nat) (d:DO),k<=i->i<j->ds[i]?=some d->loud d.co=false)->Hp j=Hp k
 | 0,h,_,_=>by rw[show k=0 by omega]
 |j+1,h,hm,hl=>by
  by_cases hk:k=j+1
  ·rw[hk]
  ·have hlt:j<ds.length:=by have:=T.le;omega
   obtain⟨d,hd⟩:∃d,ds[j]?=some d:=⟨ds[j],afD hlt⟩
   rw[(T.stp j d (by omega) hd).heap (hl j d (by omega) (by omega) hd)];exact T.heap j (by omega) (by omega) λi d h1 h2=>hl i d h1 (by omega)
theorem Trace.later(T:Trace K O ds [] st ex st' V E Hp m){k:Nat}{d:DO}{q:MOp}(hd:ds[k]?=some d)(hkm:k<m)(ho:d.co.op=.m q)(hq:iB q=true)
  (hw:wanted d.co.gd (keep d.looks (E k))=some true):∀j,k<=j->j<=m->(∀(i:Nat) (c:DO),k<i->i<j->ds[i]?=some c->loud c.co=true->d.ix∈c.re)->evQ K O q (keep d.looks (E k)) (Hp j)=some (V k)
 | 0,h,hm,hl=>by
  have hk0:k=0:=by omega
  subst hk0;rcases T.stp 0 d hkm hd with⟨h1,_,_⟩|⟨_,⟨q',h1,_,_⟩|⟨q',h1,_,h3,_⟩|⟨q',h1,h2,_⟩⟩
  ·rw[hw]at h1;cases h1
  ·rw[ho]at h1;cases h1
  ·rw[ho]at h1;injection h1 with h1;subst h1;exact h3
  ·rw[ho]at h1;injection h1 with h1;subst h1;rw[hq]at h2;cases h2
 |j+1,h,hm,hl=>by
  by_cases hk:k=j+1
  ·subst hk;rcases T.stp _ d hkm hd with⟨h1,_,_⟩|⟨_,⟨q',h1,_,_⟩|⟨q',h1,_,h3,_⟩|⟨q',h1,h2,_⟩⟩
   ·rw[hw]at h1;cases h1
   ·rw[ho]at h1;cases h1
   ·rw[ho]at h1;injection h1 with h1;subst h1;exact h3
   ·rw[ho]at h1;injection h1 with h1;subst h1;rw[hq]at h2;cases h2
  ·have hlt:j<ds.length:=by have:=T.le;omega
   obtain⟨c,hc⟩:∃c,ds[j]?=some c:=⟨ds[j],afD hlt⟩
   by_cases hlo:loud c.co=true
   ·by_cases hkj:k=j
    ·subst hkj;rw[hd]at hc;injection hc with hc
     subst hc;simp[loud,ho,hq]at hlo
    ·exact T.again k d q hkm hd ho hq hw j c (by omega) (by omega) hc hlo (hl j c (by omega) (by omega) hc hlo)
   ·rw[(T.stp j c (by omega) hc).heap (by simpa using hlo)];exact T.later hd hkm ho hq hw j (by omega) (by omega) λi c h1 h2=>hl i c h1 (by omega)
end
end Go.Ab
namespace Go.Ab
open Go.RowKit
variable{P:Program}
theorem Og(live:List Nat)(e:Env)(t:Nat):get (keep live e) t=if t∈live then get e t else .top:=by
 unfold keep
 induction live with
 |nil=>simp[get]
 |cons u r ih=>
  simp only[afj,get,ih,afp];by_cases h:u=t
  ·subst h;simp
  ·rw[if_neg h];have:¬ t=u:=λe=>h e.symm
   simp[this]
def aZ(m6:Array Bool)(i:Nat):Prop:=m6.getD i false=true
theorem fL{m6:Array Bool}{i j:Nat}(h:i<m6.size):aZ (m6.setIfInBounds i true) j↔j=i∨aZ m6 j:=by
 unfold aZ;by_cases hij:i=j
 ·subst hij;simp[h]
 ·rw[getD_set_ne false hij];exact⟨.inr,λh=>h.resolve_left (λe=>hij e.symm)⟩
theorem iD{c:CO}(h:mz c=true):∃s t z,c={ dst:=some s,gd:=none,op:=.m (.alloc t z false) }:=by
 unfold mz at h;split at h
 ·exact⟨_,_,_,rfl⟩
 ·cases h
theorem X5{H:Hints}{f:FuncId}{o:Oper}{t:TypeId}{z:AV}{b:Bool}(hop:cOp P H f o=.m (.alloc t z b)) :
  ∃zv,z=ofV zv∧0<z.cells.length∧∀(a:Act) (w:World),(execOp a.eval o).run P w=.ok (.value (.pointer (some ⟨w.heap.size,0,none⟩))) (w.alloc (.cells zv.cells t)):=by
 unfold cOp at hop;cases ho:o.op with
 |alloc t'=>
  simp only[ho]at hop;split at hop
  ·rename_i ag sz z' hsh hz;split at hop
   ·rename_i hpos;injection hop with hop
    injection hop with e1 e2 e3
    subst e1;subst e2;obtain⟨i,zv,hi,hzv,hzz,hzl⟩:=cY hz;obtain⟨d,i',_,hi',ack,_⟩:=iJ hsh;rw[hi]at hi';injection hi' with hi';subst hi'
    refine⟨zv,hzz,by omega,λa w=>?_⟩;simp[execOp,ho,Instr.alloc,zeroValue,typeInfo,hi,hzv,newVar,newRow]
   ·split at hop<;>cases hop
  ·cases hop
 |_=>simp only[ho]at hop;repeat' (first|(cases hop;done)|split at hop)
structure Early (w0 w:World)(G:Gm)(h:Heap)(c:CO)(x:Value)(b:Nat):Prop where
 val:x=.pointer (some ⟨b,0,none⟩)
 row:∃s t zv,c={ dst:=some s,gd:=none,op:=.m (.alloc t (ofV zv) false) }∧0<(ofV zv).cells.length∧w.heap[b]?=some (.cells zv.cells t (0,0))
 free:¬ Held G h b
 imm:∀o,¬ G.imm b o
 new:w0.heap.size<=b
theorem Early.lt{w0 w:World}{G:Gm}{h:Heap}{c:CO}{x:Value}{b:Nat}(e:Early w0 w G h c x b):b<w.heap.size:=by
 obtain⟨_,_,_,_,_,h3⟩:=e.row;exact (afN.1 h3).1
theorem Early.along{w0 w w':World}{G G':Gm}{h h':Heap}{c:CO}{x:Value}{b:Nat}(e:Early w0 w G h c x b)(g:Goes w G h w' G' h'):Early w0 w' G' h' c x b where
 val:=e.val
 row:=by
  obtain⟨s,t,zv,h1,h2,h3⟩:=e.row;exact⟨s,t,zv,h1,h2,(g.heap b e.lt e.free).trans h3⟩
 free hb:=e.free (g.img b hb e.lt)
 imm o ho:=e.imm o (g.C6 b o e.lt e.free ho)
 new:=e.new
theorem Uu{w0 w:World}{G0 G:Gm}{h0 h:Heap}(s:Sim w G h)(hn:h≠[])(g:Goes w0 G0 h0 w G h){c:CO}{x:Value}{b:Nat}(e:Early w0 w G h c x b){sl:Nat}{t:TypeId}{z:AV}
  (hc:c={ dst:=some sl,gd:=none,op:=.m (.alloc t z false) }) :
  Sim w (G.at_ (hnext h) (some b) none 0) (hnew h (.box t false z))∧Goes w0 G0 h0 w (G.at_ (hnext h) (some b) none 0) (hnew h (.box t false z)) ∧
  aD w (G.at_ (hnext h) (some b) none 0) (dom (hnew h (.box t false z))) (.ptr (hnext h) 0) x ∧
  (∀v y,aD w G (dom h) v y->aD w (G.at_ (hnext h) (some b) none 0) (dom (hnew h (.box t false z))) v y) ∧
  (∀c' x' b',b'≠b->Early w0 w G h c' x' b'->Early w0 w (G.at_ (hnext h) (some b) none 0) (hnew h (.box t false z)) c' x' b'):=by
 obtain⟨sl',t',zv,h1,h2,h3⟩:=e.row;rw[hc]at h1;injection h1 with _ _ h1
 injection h1 with h1
 injection h1 with e1 e2
 subst e1;subst e2;have hne:∀a,dom h a->a≠hnext h:=λa ha e=>by rw[e]at ha;unfold dom at ha;rw[kC h]at ha;cases ha
 have hv:=(fD (w:=w) (G:=G.at_ (hnext h) (some b) none 0) (L:=mR (hnew h (.box t false (ofV zv))) (hnext h).1) zv).dO h2;refine⟨s.X6 hn (afm _) (λ_ _=>rfl) (λk hk ea=>by injection hk with hk;subst hk;exact e.free ea) ?_,g.name hn e.new,?_,λv y hy=>?_,λc' x' b' hb k=>?_⟩
 ·exact⟨b,zv.cells,by simp[Gm.at_],by simp[Gm.at_],h3,hv.1,λj hj=>hv.2 j (by rw[<-hv.1];exact hj),λo ho=>absurd ho (e.imm o)⟩
 ·rw[e.val];exact .ptr _ _ _ _ ((dw hn _ _).2 (.inl rfl)) (by simp[Gm.at_]) (by simp[Gm.at_])
 ·exact hy.mono (λb o hi=>⟨hi,rfl⟩) λa ha=>⟨(dw hn a _).2 (.inr ha),.inl (by simp[Gm.at_,hne a ha])⟩
 ·refine⟨k.val,k.row,λhh=>?_,k.imm,k.new⟩;rcases hh with⟨a,ha,ea⟩|hh
  ·rw[dw hn]at ha;by_cases ca:a=hnext h
   ·simp[Gm.at_,ca]at ea;exact hb ea.symm
   ·exact k.free (.of (ha.resolve_left ca) (by simpa[Gm.at_,ca]using ea))
  ·exact k.free (.inr hh)
structure Inv (N:Nat)(D:List Deferred)(w0:World)(G0:Gm)(h0:Heap)(ops:Array Oper)(ds:List DO)(st:St)(V:Nat->AV)(Hp:Nat->Heap)(m:Nat)(m6:Array Bool)(a:Act)(w:World)(G:Gm)(kh:Nat)(pb:Nat->Nat):Prop where
 size:m6.size=ops.size
 clo:∀(j:Nat) (o:Oper),ops[j]?=some o->aZ m6 j->∀e∈o.after,Region.binds .any e=true->aZ m6 e.on
 lt:∀(k:Nat) (d:DO),ds[k]?=some d->aZ m6 d.ix->k<m∨(m<k∧mz d.co=true)
 tm:a.tmps.size=N
 df:a.defers=D
 le:kh<=m
 sim:Sim w G (Hp kh)
 goes:Goes w0 G0 h0 w G (Hp kh)
 ne:Hp kh≠[]
 ld:∀(k:Nat) (d:DO),ds[k]?=some d->loud d.co=true->k<kh->aZ m6 d.ix
 al:∀(k:Nat) (d:DO),ds[k]?=some d->loud d.co=true->aZ m6 d.ix->kh<=k->mz d.co=true
 pd:∀(k:Nat) (d:DO) (t:Nat),ds[k]?=some d->loud d.co=true->aZ m6 d.ix->kh<=k->d.co.dst=some t->Early w0 w G (Hp kh) d.co (a.tmps.getD t undef) (pb k)
 pi:∀(k k':Nat) (d d':DO),ds[k]?=some d->loud d.co=true->aZ m6 d.ix->kh<=k->ds[k']?=some d'->loud d'.co=true->aZ m6 d'.ix->kh<=k'->pb k=pb k'->k=k'
 wr:∀(k:Nat) (d:DO) (t:Nat),ds[k]?=some d->d.co.dst=some t->aZ m6 d.ix->(loud d.co=true->k<kh)->aD w G (dom (Hp kh)) (V k) (a.tmps.getD t undef)
 st:∀(t:Nat),(∀(k:Nat) (d:DO),ds[k]?=some d->d.co.dst=some t->¬ aZ m6 d.ix)->aD w G (dom (Hp kh)) (get st.env t) (a.tmps.getD t undef)
def Mx(ds:List DO)(m6:Array Bool)(kh:Nat):Prop:=
 ∀(k:Nat) (d:DO),ds[k]?=some d->loud d.co=true->aZ m6 d.ix->kh<=k->∃(j:Nat) (c:DO),j<k∧ds[j]?=some c∧loud c.co=true∧¬ aZ m6 c.ix
section
variable{N:Nat}{D:List Deferred}{w0:World}{G0:Gm}{h0:Heap}{K:Cfg}{O:Orc}{ds:List DO}{st:St}{ex:Ex}{st':St}{V:Nat->AV}{E:Nat->Env}{Hp:Nat->Heap}{m:Nat}{ops:Array Oper}
 {m6:Array Bool} {a:Act} {w:World} {G:Gm} {kh:Nat} {pb:Nat->Nat}
structure Up (ops:Array Oper)(m6:Array Bool)(d:DO)(o:Oper):Prop where
 op:ops[d.ix]?=some o
 un:¬ aZ m6 d.ix
 on:∀e∈o.after,Region.binds .any e=true->aZ m6 e.on
theorem Up.anc(fit:Fit ops ds)(I:Inv N D w0 G0 h0 ops ds st V Hp m m6 a w G kh pb){k:Nat}{d:DO}{o:Oper}(hd:ds[k]?=some d)(u:Up ops m6 d o):∀i∈d.anc,aZ m6 i:=λi hi=>by
 obtain⟨o',ho,_,h2⟩:=fit.op k d hd;rw[u.op]at ho;injection ho with ho
 subst ho;obtain⟨e,he,hb,h3⟩:=h2 i hi;have hon:=u.on e he hb;rcases h3 with rfl|⟨p,c,_,h5,h6,h7⟩
 ·exact hon
 ·exact C5 fit I.clo p c h5 (h6▸hon) i h7
theorem Up.later(fit:Fit ops ds)(I:Inv N D w0 G0 h0 ops ds st V Hp m m6 a w G kh pb){k:Nat}{d:DO}{o:Oper}(hd:ds[k]?=some d)(u:Up ops m6 d o){j:Nat}{c:DO}(hc:ds[j]?=some c)(hl:aZ m6 c.ix):d.ix∉c.anc:=
 λh=>u.un (C5 fit I.clo j c hc hl _ h)
theorem Inv.env(fit:Fit ops ds)(T:Trace K O ds [] st ex st' V E Hp m)(I:Inv N D w0 G0 h0 ops ds st V Hp m m6 a w G kh pb)(M:Mx ds m6 kh){k:Nat}{d:DO}{o:Oper}(hd:ds[k]?=some d)(hk:k<=m)(u:Up ops m6 d o) :
  aF w G (dom (Hp kh)) (keep d.looks (E k)) a:=λt=>by
 rw[Og];split
 ·rename_i ht;by_cases hw:∃(p:Nat) (c:DO),p<k∧ds[p]?=some c∧c.co.dst=some t
  ·obtain⟨p,c,hp,hc,hct⟩:=hw;rw[T.write fit hc hct k hp hk];have hl:=u.anc fit I hd _ (Gj (fit.pair p k c d hp hc hd) hct ht);refine I.wr p c t hc hct hl λhlc=>?_
   rcases agd p kh with h|h
   ·exact h
   ·obtain⟨j,b,h1,h2,h3,h4⟩:=M p c hc hlc hl h;exact absurd (u.anc fit I hd _ (fit.al j p k b c d t h1 hp h2 hc hd h3 (I.al p c hc hlc hl h) hct ht)) h4
  ·have hno:∀(p:Nat) (c:DO),p<k->ds[p]?=some c->c.co.dst≠some t:=λp c h1 h2 h3=>hw ⟨p,c,h1,h2,h3⟩
   rw[T.still k hk hno];refine I.st t λk' d' h1 h2 h3=>?_
   rcases Nat.lt_trichotomy k' k with h|h|h
   ·exact hno k' d' h h1 h2
   ·subst h;rw[hd]at h1;injection h1 with h1
    subst h1;exact u.un h3
   ·exact u.later fit I hd h1 h3 (DB (fit.pair k k' d d' h hd h1) h2 ht)
 ·exact .top _ _
theorem Inv.X7(fit:Fit ops ds)(T:Trace K O ds [] st ex st' V E Hp m)(I:Inv N D w0 G0 h0 ops ds st V Hp m m6 a w G kh pb)(M:Mx ds m6 kh){k:Nat}(hk:k<=m)(h1:kh<=k)
  (hall:∀(j:Nat) (c:DO),j<k->ds[j]?=some c->loud c.co=true->aZ m6 c.ix):Hp k=Hp kh:=by
 refine T.heap k h1 hk λi c h2 h3 hc=>?_
 by_cases hlc:loud c.co=true
 ·obtain⟨j,b,k1,k2,k3,k4⟩:=M i c hc hlc (hall i c h3 hc hlc) h2;exact absurd (hall j b (by omega) k2 k3) k4
 ·simpa using hlc
theorem Inv.next(fit:Fit ops ds)(I:Inv N D w0 G0 h0 ops ds st V Hp m m6 a w G kh pb){k:Nat}{d:DO}{o:Oper}(hd:ds[k]?=some d)(hk:k<m∨(m<k∧mz d.co=true))(u:Up ops m6 d o)(AH:d.co.dst=o.dst)(hin:inN N o.dst=true)
  {kh':Nat} {x:Value} {w':World} {G':Gm} (hle:kh'<=m) (hkk:kh<=kh') (s':Sim w' G' (Hp kh')) (g':Goes w G (Hp kh) w' G' (Hp kh'))
  (hv:(loud d.co=true->k<kh')->aD w' G' (dom (Hp kh')) (V k) x)
  (hld:∀(j:Nat) (c:DO),ds[j]?=some c->loud c.co=true->j<kh'->c.ix=d.ix∨aZ m6 c.ix)
  (hpe:∀(j:Nat) (c:DO),ds[j]?=some c->loud c.co=true->aZ m6 c.ix->kh<=j->kh'<=j)
  {pb':Nat->Nat} (hpb:∀j,j≠k->pb' j=pb j)
  (hnew:loud d.co=true->kh'<=k->mz d.co=true∧Early w0 w' G' (Hp kh') d.co x (pb' k) ∧
   ∀(j:Nat) (c:DO),ds[j]?=some c->loud c.co=true->aZ m6 c.ix->kh<=j->pb j≠pb' k) :
  Inv N D w0 G0 h0 ops ds st V Hp m (m6.setIfInBounds d.ix true) (a.put o.dst x) w' G' kh' pb':=by
 have hix:d.ix<m6.size:=by rw[I.size];exact (afN.1 u.op).1
 have uniq:∀(j:Nat) (c:DO),ds[j]?=some c->c.ix=d.ix->j=k:=λj c hc he=>by
  rcases Nat.lt_trichotomy j k with h|h|h
  ·exact absurd he (tj (fit.pair j k c d h hc hd))
  ·exact h
  ·exact absurd he.symm (tj (fit.pair k j d c h hd hc))
 have slot:∀t,(a.put o.dst x).tmps.getD t undef=if o.dst=some t then x else a.tmps.getD t undef:=λt=>by
  cases hdd:o.dst with
  |none=>simp[Act.put]
  |some t'=>
   by_cases ht:t'=t
   ·subst ht;rw[hdd]at hin;simp only[inN,decide_eq_true_eq]at hin;have:t'<a.tmps.size:=by rw[I.tm];exact hin
    simp[Act.put,this]
   ·have:¬ (some t'=some t):=λe=>ht (by injection e)
    rw[if_neg this];simp[Act.put,afx,Array.getElem?_setIfInBounds_ne ht]
 refine { size:=by simp[I.size],clo:=?_,lt:=?_,tm:=by rw[rR];exact I.tm,df:=by rw[put_defers];exact I.df,le:=hle,sim:=s',goes:=I.goes.trans g',ne:=?_,ld:=?_,al:=?_,pd:=?_,pi:=?_,wr:=?_,st:=?_ }
 ·intro j oj hj hl e he hb;rw[fL hix]at hl⊢;rcases hl with rfl|hl
  ·rw[u.op]at hj;injection hj with hj
   subst hj;exact .inr (u.on e he hb)
  ·exact .inr (I.clo j oj hj hl e he hb)
 ·intro j c hc hl;rw[fL hix]at hl;rcases hl with hl|hl
  ·have hjk:=uniq j c hc hl;subst hjk;rw[hd]at hc;injection hc with hc
   subst hc;exact hk
  ·exact I.lt j c hc hl
 ·intro e0;have:=g'.depth;rw[e0]at this;have hne:=I.ne;cases hs:Hp kh<;>simp_all
 ·intro j c hc hl hj;rw[fL hix];exact hld j c hc hl hj
 ·intro j c hc hlc hl hj;rw[fL hix]at hl;rcases hl with hl|hl
  ·have hjk:=uniq j c hc hl;subst hjk;rw[hd]at hc;injection hc with hc
   subst hc;exact (hnew hlc hj).1
  ·exact I.al j c hc hlc hl (by omega)
 ·intro j c t hc hlc hl hj ht;rw[fL hix]at hl;rw[slot];rcases hl with hl|hl
  ·have hjk:=uniq j c hc hl;subst hjk;rw[hd]at hc;injection hc with hc
   subst hc;rw[if_pos (by rw[<-AH];exact ht)];exact (hnew hlc hj).2.1
  ·have hjk:j≠k:=λe=>by subst e;rw[hd]at hc;injection hc with hc;subst hc;exact u.un hl
   have hne:o.dst≠some t:=by
    rw[<-AH];rcases agR hjk with h|h
    ·exact mA (fit.pair j k c d h hc hd) ht
    ·intro e;exact mA (fit.pair k j d c h hd hc) e ht
   rw[if_neg hne,hpb j hjk];exact (I.pd j c t hc hlc hl (by omega) ht).along g'
 ·intro j j' c c' hc hlc hl hj hc' X8 hl' hj' he;rw[fL hix]at hl hl';have cs:∀(i:Nat) (b:DO),ds[i]?=some b->b.ix=d.ix∨aZ m6 b.ix->i=k∨(i≠k∧aZ m6 b.ix):=λi b hb hx=>by
   rcases hx with hx|hx
   ·exact .inl (uniq i b hb hx)
   ·by_cases e:i=k
    ·exact .inl e
    ·exact .inr ⟨e,hx⟩
  rcases cs j c hc hl with h1|⟨h1,h2⟩
  ·rcases cs j' c' hc' hl' with k1|⟨k1,k2⟩
   ·rw[h1,k1]
   ·subst h1;rw[hd]at hc;injection hc with hc
    subst hc;rw[hpb j' k1]at he;exact absurd he.symm ((hnew hlc hj).2.2 j' c' hc' X8 k2 (by omega))
  ·rcases cs j' c' hc' hl' with k1|⟨k1,k2⟩
   ·subst k1;rw[hd]at hc';injection hc' with hc'
    subst hc';rw[hpb j h1]at he;exact absurd he ((hnew X8 hj').2.2 j c hc hlc h2 (by omega))
   ·rw[hpb j h1,hpb j' k1]at he;exact I.pi j j' c c' hc hlc h2 (by omega) hc' X8 k2 (by omega) he
 ·intro j c t hc ht hl hlk;rw[fL hix]at hl;rw[slot];rcases hl with hl|hl
  ·have hjk:=uniq j c hc hl;subst hjk;rw[hd]at hc;injection hc with hc
   subst hc;rw[if_pos (by rw[<-AH];exact ht)];exact hv hlk
  ·have hjk:j≠k:=λe=>by subst e;rw[hd]at hc;injection hc with hc;subst hc;exact u.un hl
   have hne:o.dst≠some t:=by
    rw[<-AH];rcases agR hjk with h|h
    ·exact mA (fit.pair j k c d h hc hd) ht
    ·intro e;exact mA (fit.pair k j d c h hd hc) e ht
   rw[if_neg hne];by_cases hlc:loud c.co=true
   ·rcases agd j kh with h|h
    ·exact (I.wr j c t hc ht hl λ_=>h).along g'
    ·exact absurd (hlk hlc) (Nat.not_lt.2 (hpe j c hc hlc hl h))
   ·exact (I.wr j c t hc ht hl λe=>absurd e hlc).along g'
 ·intro t ht;have hne:o.dst≠some t:=λe=>ht k d hd (by rw[AH];exact e) ((fL hix).2 (.inl rfl))
  rw[slot,if_neg hne];exact (I.st t λj c hc hct hl=>ht j c hc hct ((fL hix).2 (.inr hl))).along g'
theorem Inv.last(T:Trace K O ds [] st ex st' V E Hp m)(I:Inv N D w0 G0 h0 ops ds st V Hp m m6 a w G kh pb)(hk:m<=kh):Mx ds m6 kh:=λk d hd _ hl hk=>by
 rcases I.lt k d hd hl with h|⟨h,_⟩
 ·omega
 ·rcases T.fin with⟨_,hm,_⟩|⟨c,q,v,h',hcm,_,hop,hq,_⟩
  ·have:=(aft.1 hd).1;omega
  ·refine⟨m,c,h,hcm,by simp[loud,hop,hq],λhli=>?_⟩;rcases I.lt m c hcm hli with h|⟨h,_⟩<;>omega
theorem Inv.advance (T:Trace K O ds [] st ex st' V E Hp m):∀(n:Nat) (G:Gm) (kh:Nat), m - kh<=n->Inv N D w0 G0 h0 ops ds st V Hp m m6 a w G kh pb ->
    ∃G' kh', Inv N D w0 G0 h0 ops ds st V Hp m m6 a w G' kh' pb∧Mx ds m6 kh'
  | 0, G, kh, hn, I=>⟨G, kh, I, I.last T (by omega)⟩
  |n+1, G, kh, hn, I=>by
    by_cases hm:kh<m
    · have hlt:kh<ds.length:=by have:=T.le;omega
      obtain⟨d, hd⟩:∃d, ds[kh]?=some d:=⟨ds[kh], afD hlt⟩
      by_cases hlo:loud d.co=true
      · by_cases hli:aZ m6 d.ix
        · -- its turn
          obtain⟨sl, t, z, hco⟩:=iD (I.al kh d hd hlo hli (afm _));have e:=I.pd kh d sl hd hlo hli (afm _) (by rw[hco]);obtain⟨k1, k2, k3, k4, k5⟩:=Uu I.sim I.ne I.goes e hco;have hst:=T.stp kh d hm hd;have hstep:V kh=.ptr (hnext (Hp kh)) 0∧Hp (kh+1)=hnew (Hp kh) (.box t false z):=by
            unfold C3 at hst;rw[hco]at hst;rcases hst with⟨h1, _⟩|⟨_, ⟨q, h1, _⟩|⟨q, h1, h2, _⟩|⟨q, h1, _, h3⟩⟩
            · simp[wanted]at h1
            · cases h1
            · simp only[COp.m.injEq]at h1;subst h1;simp[iB]at h2
            · simp only[COp.m.injEq]at h1;subst h1
              simp only[evM, afA, if_false, fS, Out.val.injEq]at h3;exact⟨h3.1.symm, h3.2.symm⟩
          obtain⟨hV, hH⟩:=hstep;have distinct:∀(k:Nat) (c:DO), ds[k]?=some c->loud c.co=true->aZ m6 c.ix->kh+1<=k->pb k≠pb kh:=λk c hc hlc hl hk he=>by
            have:=I.pi k kh c d hc hlc hl (by omega) hd hlo hli (afm _) he;omega
          refine Inv.advance T n _ (kh+1) (by omega) (?_:Inv N D w0 G0 h0 ops ds st V Hp m m6 a w (G.at_ (hnext (Hp kh)) (some (pb kh)) none 0) (kh+1) pb)
          refine { size := I.size, clo := I.clo, lt := I.lt, tm := I.tm, df := I.df, le := hm, sim := by rw [hH]; exact k1, goes := by rw [hH]; exact k2, ne := ?_, ld := ?_, al := fun k c hc hlc hl hk => I.al k c hc hlc hl (by omega),
                   pd:=?_, pi:=λk k' c c' h1 h2 h3 h4 h5 h6 h7 h8=>I.pi k k' c c' h1 h2 h3 (by omega) h5 h6 h7 (by omega), wr:=?_, st:=?_ }
          · rw[hH]
            intro e0;have:=kD (Hp kh) (.box t false z);rw[e0]at this;have hne:=I.ne;cases hs:Hp kh<;>simp_all
          · intro k c hc hlc hk
            rcases agd k kh with h|h
            · exact I.ld k c hc hlc h
            · have:k=kh:=by omega
              subst this;rw[hd]at hc;injection hc with hc
              subst hc;exact hli
          · intro k c u hc hlc hl hk hu
            rw[hH];exact k5 _ _ _ (distinct k c hc hlc hl hk) (I.pd k c u hc hlc hl (by omega) hu)
          · intro k c u hc hu hl hk
            rw[hH];by_cases hkk:k=kh
            · subst hkk
              rw[hd]at hc;injection hc with hc
              subst hc;rw[hco]at hu;injection hu with hu
              subst hu;rw[hV];exact k3
            · refine k4 _ _ (I.wr k c u hc hu hl λhlc=>?_)
              have:=hk hlc;omega
          · intro u hu
            rw[hH];exact k4 _ _ (I.st u hu)
        · exact ⟨G, kh, I, fun k c hc hlc hl hk=>by
            refine⟨kh, d, ?_, hd, hlo, hli⟩;rcases agd kh k with h|h
            · exact h
            · have:k=kh:=by omega
              subst this;rw[hd]at hc;injection hc with hc
              subst hc;exact absurd hl hli⟩
      · have hH:Hp (kh+1)=Hp kh:=(T.stp kh d hm hd).heap (by simpa using hlo)
        have nk:∀(k:Nat) (c:DO), ds[k]?=some c->loud c.co=true->k≠kh:=λk c hc hlc e=>by
          subst e;rw[hd]at hc;injection hc with hc
          subst hc;exact hlo hlc
        refine Inv.advance T n G (kh+1) (by omega) ?_
        exact { size := I.size, clo := I.clo, lt := I.lt, tm := I.tm, df := I.df, le := hm, sim := by rw [hH]; exact I.sim, goes := by rw [hH]; exact I.goes, ne := by rw [hH]; exact I.ne,
                ld:=λk c hc hlc hk=>I.ld k c hc hlc (by have:=nk k c hc hlc;omega), al:=λk c hc hlc hl hk=>I.al k c hc hlc hl (by omega),
                pd:=λk c u hc hlc hl hk hu=>by rw[hH];exact I.pd k c u hc hlc hl (by omega) hu,
                pi:=λk k' c c' h1 h2 h3 h4 h5 h6 h7 h8=>I.pi k k' c c' h1 h2 h3 (by omega) h5 h6 h7 (by omega),
                wr:=λk c u hc hu hl hk=>by rw[hH];exact I.wr k c u hc hu hl λhlc=>by have:=hk hlc;have:=nk k c hc hlc;omega,
                st:=λu hu=>by rw[hH];exact I.st u hu }
    · exact⟨G, kh, I, I.last T (by omega)⟩
theorem Inv.done(fit:Fit ops ds)(T:Trace K O ds [] st ex st' V E Hp m)(I:Inv N D w0 G0 h0 ops ds st V Hp m m6 a w G kh pb)(M:Mx ds m6 kh)(hr:Region.ready .any ops m6=[]):Post N D w0 G0 h0 ex st' .normal a w:=by
 have all:∀(k:Nat) (d:DO),ds[k]?=some d->aZ m6 d.ix:=λk=>by
  induction k using Nat.strongRecOn with
  |ind k ih=>
   intro d hd;by_cases h:aZ m6 d.ix
   ·exact h
   ·obtain⟨o,ho,h1,_⟩:=fit.op k d hd;have hlt:d.ix<m6.size:=by rw[I.size];exact (afN.1 ho).1
    have:d.ix∈Region.ready .any ops m6:=mem_ready.2 ⟨by unfold aZ at h;simpa[Array.getD,hlt]using h,o,ho,λe he hb=>by
     obtain⟨p,c,hp,hc,hce⟩:=h1 e he hb;have:=ih p hp c hc;rw[hce]at this;exact this⟩
    rw[hr]at this;cases this
 rcases T.fin with⟨rfl,hm,rfl⟩|⟨d,q,v,h,hd,_⟩
 ·have hh:Hp m=Hp kh:=T.heap m I.le (afm m) λi c h1 h2 hc=>by
   by_cases hlc:loud c.co=true
   ·obtain⟨j,b,_,k2,_,k4⟩:=M i c hc hlc (all i c hc) h1;exact absurd (all j b k2) k4
   ·simpa using hlc
  refine⟨G,by rw[hh];exact I.sim,by simp only[hh];exact I.goes,λt=>?_,I.tm,I.df,rfl⟩;simp only[hh];by_cases hw:∃(p:Nat) (c:DO),p<m∧ds[p]?=some c∧c.co.dst=some t
  ·obtain⟨p,c,hp,hc,hct⟩:=hw;rw[T.write fit hc hct m hp (afm m)];refine I.wr p c t hc hct (all p c hc) λhlc=>?_
   rcases agd p kh with h|h
   ·exact h
   ·obtain⟨j,b,_,k2,_,k4⟩:=M p c hc hlc (all p c hc) h;exact absurd (all j b k2) k4
  ·rw[T.still m (afm m) λp c h1 h2 h3=>hw ⟨p,c,h1,h2,h3⟩];exact I.st t λk d h1 h2 h3=>hw ⟨k,d,by have:=(aft.1 h1).1;omega,h1,h2⟩
 ·rcases I.lt m d hd (all m d hd) with h|⟨h,_⟩<;>exact absurd h (Nat.lt_irrefl m)
theorem Inv.step(fit:Fit ops ds){H:Hints}{f:FuncId}(hO:cV P O)(hco:∀(k:Nat) (d:DO) (o:Oper),ds[k]?=some d->ops[d.ix]?=some o->d.co=kO P H f N ops o)
  (T:Trace K O ds [] st ex st' V E Hp m) (I:Inv N D w0 G0 h0 ops ds st V Hp m m6 a w G kh pb) (M:Mx ds m6 kh) {i:Nat} (hi:i∈Region.ready .any ops m6) {Kp:Act->World->Prop}
  (kk:∀a' w' G' kh' pb',Inv N D w0 G0 h0 ops ds st V Hp m (m6.setIfInBounds i true) a' w' G' kh' pb'->Mx ds (m6.setIfInBounds i true) kh'->Kp a' w')
  (cover:∀i,i<ops.size->∃d∈ds,d.ix=i):wpOp P ops (Post N D w0 G0 h0 ex st') i Kp a w:=by
 obtain⟨hun,o,ho,hon⟩:=mem_ready.1 hi;have hlt:i<m6.size:=by rw[I.size];exact (afN.1 ho).1
 obtain⟨d,hdm,hdi⟩:=cover i (by rw[<-I.size];exact hlt);obtain⟨p,hd⟩:=List.getElem?_of_mem hdm;subst hdi;have k:∀a' w' G' kh' pb',Inv N D w0 G0 h0 ops ds st V Hp m (m6.setIfInBounds d.ix true) a' w' G' kh' pb'->Kp a' w':=λa' w' G' kh' pb' I'=>by
  obtain⟨G2,kh2,I2,M2⟩:=Inv.advance T _ G' kh' (afm _) I';exact kk a' w' G2 kh2 pb' I2 M2
 have u:Up ops m6 d o:=⟨ho,(λh=>by unfold aZ at h;simp[Array.getD,hlt]at h hun;rw[h]at hun;cases hun),hon⟩
 have hc:=hco p d o hd ho;have AH:d.co.dst=o.dst:=by rw[hc];unfold kO;split<;>(try split)<;>rfl
 have uniq:∀(j:Nat) (c:DO),ds[j]?=some c->c.ix=d.ix->j=p:=λj c hc he=>by
  rcases Nat.lt_trichotomy j p with h|h|h
  ·exact absurd he (tj (fit.pair j p c d h hc hd))
  ·exact h
  ·exact absurd he.symm (tj (fit.pair p j d c h hd hc))
 have anc:∀(j:Nat) (c:DO),j<p->ds[j]?=some c->loud c.co=true->mz d.co=false->aZ m6 c.ix:=λj c hj hc hlc hna=>by
  rcases Ah (fit.pair j p c d hj hc hd) hlc with h|h
  ·exact u.anc fit I hd _ h
  ·rw[hna]at h;cases h
 have Kn:p<=m->(∀(j:Nat) (c:DO),j<p->ds[j]?=some c->loud c.co=true->aZ m6 c.ix)->loud d.co=true->kh<=p∧Hp p=Hp kh ∧
   (∀(j:Nat) (c:DO),ds[j]?=some c->loud c.co=true->j<p+1->c.ix=d.ix∨aZ m6 c.ix) ∧
   (∀(j:Nat) (c:DO),ds[j]?=some c->loud c.co=true->aZ m6 c.ix->kh<=j->p+1<=j):=λhpm hall hl=>by
  have h1:kh<=p:=by
   rcases agd p kh with h|h
   ·exact absurd (I.ld p d hd hl h) u.un
   ·exact h
  refine⟨h1,I.X7 fit T M hpm h1 hall,λj c hc hlc hj=>?_,λj c hc hlc hli hj=>?_⟩
  ·rcases agd j p with h|h
   ·exact .inr (hall j c h hc hlc)
   ·have:j=p:=by omega
    subst this;rw[hd]at hc;injection hc with hc
    subst hc;exact .inl rfl
  ·rcases Nat.lt_trichotomy j p with h|h|h
   ·obtain⟨i,b,k1,k2,k3,k4⟩:=M j c hc hlc hli hj;exact absurd (hall i b (by omega) k2 k3) k4
   ·subst h;rw[hd]at hc;injection hc with hc
    subst hc;exact absurd hli u.un
   ·exact h
 have Vk:loud d.co=false->mz d.co=false:=λhl=>by
  cases hx:mz d.co with
  |false=>rfl
  |true=>
   obtain⟨_,_,_,hco⟩:=iD hx;rw[hco]at hl;simp[loud,iB]at hl
 have shape:d.co.op≠.bad->∃gd,rT ops o.guard=some gd∧inN N o.dst=true∧d.co={ dst:=o.dst,gd:=gd,op:=cOp P H f o }:=λhb=>by
  rw[hc]at hb⊢;unfold kO at hb⊢;split at hb
  ·exact absurd rfl hb
  ·rename_i gd hgd;split at hb
   ·rename_i hin;simp only[hgd,hin,if_true];exact⟨gd,rfl,trivial,rfl⟩
   ·exact absurd rfl hb
 have shape':d.co.gd≠none->∃gd,rT ops o.guard=some gd∧inN N o.dst=true∧d.co={ dst:=o.dst,gd:=gd,op:=cOp P H f o }:=λhb=>by
  rw[hc]at hb⊢;unfold kO at hb⊢;split at hb
  ·exact absurd rfl hb
  ·rename_i gd hgd;split at hb
   ·rename_i hin;simp only[hgd,hin,if_true];exact⟨gd,rfl,trivial,rfl⟩
   ·exact absurd rfl hb
 have MB:mz d.co=true->(p<m∨(m<p∧mz d.co=true))->kh<=p->d.co.op=cOp P H f o->loud d.co=true->inN N o.dst=true->Oper.wp P o a w Kp (Post N D w0 G0 h0 ex st'):=λhal hp hkp Gk hl hin=>by
  obtain⟨sl,t,z,hco⟩:=iD hal;have hq:cOp P H f o=.m (.alloc t z false):=by rw[<-Gk,hco]
  obtain⟨zv,hz,hpos,hrun⟩:=X5 hq;have hb:∀b,b<w.heap.size->(w.alloc (.cells zv.cells t)).heap[b]?=w.heap[b]?:=λb hb=>heap_alloc_old w _ hb
  have g1:Goes w G (Hp kh) (w.alloc (.cells zv.cells t)) G (Hp kh):=Goes.world I.sim rfl rfl rfl (by simp) hb;have s1:Sim (w.alloc (.cells zv.cells t)) G (Hp kh):=I.sim.world (by simp) hb;have hsz:w0.heap.size<=w.heap.size:=I.goes.size;unfold Oper.wp;rw[hrun];refine k _ _ _ _ (λj=>if j=p then w.heap.size else pb j) (I.next fit hd hp u AH hin I.le (afm _) s1 g1 (λh=>by have:=h hl;omega) (λj c hc hlc hj=>.inr (I.ld j c hc hlc hj)) (λ_ _ _ _ _ h=>h)
   (λj hj=>by simp[hj]) (λ_ _=>⟨hal,?_,λj c hc hlc hli hj=>?_⟩))
  ·simp only[if_true];refine⟨rfl,⟨sl,t,zv,by rw[hco,hz],by rw[<-hz];exact hpos,heap_alloc_new w _⟩,λe=>?_,λq hq'=>?_,hsz⟩
   ·have:=I.sim.held e;omega
   ·have:=I.sim.imm _ _ hq';omega
  ·simp only[if_true];have oC:=I.al j c hc hlc hli hj;obtain⟨sl',t',z',zm⟩:=iD oC;have:=(I.pd j c sl' hc hlc hli hj (by rw[zm])).lt;omega
 unfold wpOp;simp only[ho];rcases agd m p with hmp|hpm
 ·
  rcases T.fin with⟨_,hm,_⟩|⟨c,q,v,h,hcm,_,hop,hq,hev,_⟩
  ·have:=(aft.1 hd).1;omega
  ·rcases Ah (fit.pair m p c d hmp hcm hd) (by simp[loud,hop,hq]) with h2|hal
   ·rcases I.lt m c hcm (u.anc fit I hd _ h2) with h|⟨h,_⟩<;>omega
   ·obtain⟨sl,t,z,hco⟩:=iD hal;obtain⟨gd,hgd,hin,zm⟩:=shape (by rw[hco];intro e;cases e);have hgn:gd=none:=by rw[hco]at zm;injection zm with _ h;exact h.symm
    subst hgn;have r0:aF w G (dom (Hp kh)) [] a:=λt=>.top _ _
    rw[if_pos (lu r0 hgd rfl)];refine .inl ?_;exact MB hal (.inr ⟨hmp,hal⟩) (by have:=I.le;omega) (by rw[zm]) (by rw[hco];rfl) hin
 have r:=I.env fit T M hd hpm u;rcases agd p m with hp|hp
 ·rcases T.stp p d hp hd with⟨hw,hV,hH⟩|⟨hw,hS⟩
  ·
   have hg:d.co.gd≠none:=λe=>by rw[e]at hw;simp[wanted]at hw
   obtain⟨gd,hgd,hin,zm⟩:=shape' hg;rw[zm]at hw;have hwt:=lu r hgd hw;rw[if_neg (by rw[hwt];simp)];have hv:∀{w':World} {G':Gm} {L:Loc->Prop},aD w' G' L (V p) undef:=by intro w' G' L;rw[hV];exact .tup _ _ _ rfl λi hi=>by simp at hi
   by_cases hl:loud d.co=true
   ·have hna:mz d.co=false:=by
     cases hx:mz d.co with
     |false=>rfl
     |true=>
      obtain⟨_,_,_,hco⟩:=iD hx;rw[hco]at hg;exact absurd rfl hg
    obtain⟨h1,h2,h3,h4⟩:=Kn hpm (λj c hj hc hlc=>anc j c hj hc hlc hna) hl;have hH':Hp (p+1)=Hp kh:=hH.trans h2;exact k _ _ _ _ _ (I.next fit hd (.inl hp) u AH hin (kh':=p+1) (by omega) (by omega) (by rw[hH'];exact I.sim) (by rw[hH'];exact Goes.refl _ _ _) (λ_=>hv) h3 h4 (λ_ _=>rfl) (λ_ h=>by omega))
   ·exact k _ _ _ _ _ (I.next fit hd (.inl hp) u AH hin I.le (afm _) I.sim (Goes.refl _ _ _) (λ_=>hv) (λj c hc hlc hj=>.inr (I.ld j c hc hlc hj)) (λ_ _ _ _ _ h=>h) (λ_ _=>rfl) (λh=>absurd h hl))
  ·have hb:d.co.op≠.bad:=λe=>by rcases hS with⟨q,h1,_⟩|⟨q,h1,_⟩|⟨q,h1,_⟩<;>rw[e]at h1<;>cases h1
   obtain⟨gd,hgd,hin,zm⟩:=shape hb;have Gk:d.co.op=cOp P H f o:=by rw[zm]
   have hw':=hw;rw[zm]at hw';have hwt:=lu r hgd hw';rw[if_pos hwt];refine .inl ?_;rcases hS with⟨q,h1,h2,h3⟩|⟨q,h1,h2,h3,h4⟩|⟨q,h1,h2,h3⟩
   ·rw[Gk]at h1;refine Mz h1 r h2 λx hx=>?_
    have hl:¬ loud d.co=true:=by simp[loud,Gk,h1]
    exact k _ _ _ _ _ (I.next fit hd (.inl hp) u AH hin I.le (afm _) I.sim (Goes.refl _ _ _) (λ_=>hx) (λj c hc hlc hj=>.inr (I.ld j c hc hlc hj)) (λ_ _ _ _ _ h=>h) (λ_ _=>rfl) (λh=>absurd h hl))
   ·have hlf:loud d.co=false:=by simp[loud,h1,h2]
    have hq:evQ K O q (keep d.looks (E p)) (Hp kh)=some (V p):=by
     rcases agd kh p with hlt' |hge
     ·have hh:Hp p=Hp kh:=T.heap p (by omega) hpm λj c e1 e2 hc=>by
       by_cases hlc:loud c.co=true
       ·obtain⟨i,b,k1,k2,k3,k4⟩:=M j c hc hlc (anc j c e2 hc hlc (Vk hlf)) e1;exact absurd (anc i b (by omega) k2 k3 (Vk hlf)) k4
       ·simpa using hlc
      rw[<-hh];exact T.later hd hp h1 h2 hw p (afm p) hpm λj c e1 e2=>by omega
     ·refine T.later hd hp h1 h2 hw kh hge I.le λj c e1 e2 hc hlc=>?_
      exact Oe (fit.pair p j d c e1 hd hc) hlc (by simp[Gh,h1,h2]) (u.later fit I hd hc (I.ld j c hc hlc e2))
    rw[Gk]at h1;refine Ru hO h1 I.sim I.ne r (Ut hq) λx w' G' s' g' hx=>?_
    exact k _ _ _ _ _ (I.next fit hd (.inl hp) u AH hin I.le (afm _) s' g' (λ_=>hx) (λj c hc hlc hj=>.inr (I.ld j c hc hlc hj)) (λ_ _ _ _ _ h=>h) (λ_ _=>rfl) (λh=>by rw[hlf]at h;cases h))
   ·have hl:loud d.co=true:=by simp[loud,h1,h2]
    rw[Gk]at h1;by_cases hall:∀(j:Nat) (c:DO),j<p->ds[j]?=some c->loud c.co=true->aZ m6 c.ix
    ·obtain⟨e0,e2,e3,e4⟩:=Kn hpm hall hl;rw[e2]at h3;refine Ru hO h1 I.sim I.ne r h3 λx w' G' s' g' hx=>?_
     exact k _ _ _ _ _ (I.next fit hd (.inl hp) u AH hin (kh':=p+1) (by omega) (by omega) s' g' (λ_=>hx) e3 e4 (λ_ _=>rfl) (λ_ h=>by omega))
    ·
     have hkp:kh<=p:=by
      rcases agd p kh with h|h
      ·exact absurd (I.ld p d hd hl h) u.un
      ·exact h
     have hal:mz d.co=true:=by
      cases hx:mz d.co with
      |true=>rfl
      |false=>exact absurd (λj c hj hc hlc=>anc j c hj hc hlc hx) hall
     exact MB hal (.inl hp) hkp Gk hl hin
 ·have hpe:p=m:=by omega
  subst hpe;rcases T.fin with⟨_,hm,_⟩|⟨c,q,v,h,hcm,hw,hop,hq,hev,rfl,rfl⟩
  ·have:=(aft.1 hd).1;omega
  ·rw[hd]at hcm;injection hcm with hcm
   subst hcm;have hb:d.co.op≠.bad:=λe=>by rw[e]at hop;cases hop
   obtain⟨gd,hgd,hin,zm⟩:=shape hb;have Gk:d.co.op=cOp P H f o:=by rw[zm]
   have hw':=hw;rw[zm]at hw';have hwt:=lu r hgd hw';rw[if_pos hwt];refine .inl ?_;have hl:loud d.co=true:=by simp[loud,hop,hq]
   have hna:mz d.co=false:=by
    cases hx:mz d.co with
    |false=>rfl
    |true=>
     obtain⟨_,_,_,hco⟩:=iD hx;rw[hco]at hop;simp only[COp.m.injEq]at hop;subst hop;simp[evM]at hev
   obtain⟨e1,e2,_,_⟩:=Kn hpm (λj c hj hc hlc=>anc j c hj hc hlc hna) hl;rw[Gk]at hop;rw[e2]at hev;refine X4 hO hop I.sim r hev λx w' G' s' g' hx=>?_
   exact⟨G',s',I.goes.trans g',λt=>.top _ _,I.tm,I.df,x,rfl,hx⟩
theorem count_set:∀(l:List Bool) (i:Nat),l[i]?=some false->(l.set i true).count false+1=l.count false
 | [],i,h=>by simp at h
 |b::l,0,h=>by
  simp only[ago,fS]at h;subst h;simp
 |b::l,i+1,h=>by
  have:=count_set l i (by simpa using h);simp only[List.set_cons_succ,List.count_cons];omega
theorem IW(fit:Fit ops ds){H:Hints}{f:FuncId}(hO:cV P O)(hco:∀(k:Nat) (d:DO) (o:Oper),ds[k]?=some d->ops[d.ix]?=some o->d.co=kO P H f N ops o)
  (T:Trace K O ds [] st ex st' V E Hp m) (cover:∀i,i<ops.size->∃d∈ds,d.ix=i):∀(fuel:Nat) (m6:Array Bool) (a:Act) (w:World) (G:Gm) (kh:Nat) (pb:Nat->Nat),
  Inv N D w0 G0 h0 ops ds st V Hp m m6 a w G kh pb->Mx ds m6 kh->m6.toList.count false<=fuel->wpAny P .any ops (Post N D w0 G0 h0 ex st') fuel m6 a w
 | 0,m6,a,w,G,kh,pb,I,M,hc=>by
  have hr:Region.ready .any ops m6=[]:=by
   refine List.eq_nil_iff_forall_not_mem.2 λi hi=>?_
   obtain⟨hun,o,ho,_⟩:=mem_ready.1 hi;have hlt:i<m6.size:=by rw[I.size];exact (afN.1 ho).1
   have:false∈m6.toList:=by
    have e:m6[i]'hlt=false:=by simpa[Array.getD,hlt]using hun
    rw[<-e];simp
   have:=List.count_pos_iff.2 this;omega
  exact⟨hr,I.done fit T M hr⟩
 |fuel+1,m6,a,w,G,kh,pb,I,M,hc=>by
  refine⟨λhr=>I.done fit T M hr,λi hi=>?_⟩;refine I.step fit hO hco T M hi (λa' w' G' kh' pb' I' M'=>IW fit hO hco T cover fuel _ a' w' G' kh' pb' I' M' ?_) cover;obtain⟨hun,o,ho,_⟩:=mem_ready.1 hi;have hlt:i<m6.size:=by rw[I.size];exact (afN.1 ho).1
  have e:m6[i]'hlt=false:=by simpa[Array.getD,hlt]using hun
  have:=count_set m6.toList i (by rw[Array.getElem?_toList,afW hlt,e]);rw[Array.toList_setIfInBounds];omega
end
theorem IX(K:Cfg)(O:Orc):∀(ds:List DO) (pd:vo) (s:St),evD K O (ds.map bare) pd s=evD K O ds pd s
 | [],_,_=>rfl
 |d::r,pd,s=>by simp only[afj,evD,bare,IX K O r]
theorem Uv {O:Orc} (hO:cV P O) {H:Hints} {f:FuncId} {N:Nat} {D:List Deferred} {K:Cfg} {id:Nat} {ops:Array Oper} {hs:List (Nat×List Nat×List Nat)} {st:St} {ex:Ex} {st':St}
    (he:evC K O (Rv P H f N ops hs) st=some (ex, st')) {w0:World} {G0:Gm} {h0:Heap} {w:World} {G:Gm} {a:Act} (g:Goes w0 G0 h0 w G st.h) (s:Sim w G st.h) (hn:st.h≠[]) (r:aF w G (dom st.h) st.env a)
    (hN:a.tmps.size=N) (hd:a.defers=D):(Code.region id ops true).wp P (Post N D w0 G0 h0 ex st') a w:=by
  unfold Rv at he;split at he
  · rename_i hok
    obtain⟨hmx, hok⟩:=hok;simp only[evC, IX]at he;obtain⟨fit, cover⟩:=MA _ _ hok ⟨λk d h=>by simp at h, λp q c d _ h=>by simp at h, λp q k b c d t _ _ h=>by simp at h⟩;simp only[List.reverse_nil, afq]at fit cover;obtain⟨V, E, Hp, m, T⟩:=oH _ _ _ _ _ he;refine wp_region_any hmx ?_;have hco:∀(k:Nat) (d:DO) (o:Oper), (hs.map (cDO P H f N ops))[k]?=some d->ops[d.ix]?=some o->d.co=kO P H f N ops o:=λk d o hk ho=>by
      rw[afy]at hk;cases hx:hs[k]? with
      |none=>rw[hx]at hk;cases hk
      |some x=>
        rw[hx]at hk;simp only[af7, fS]at hk;subst hk;unfold cDO at ho⊢;cases hz:ops[x.1]? with
        |none=>rw[hz]at ho;simp only[hz]at ho;cases ho
        |some o'=>
          rw[hz]at ho;simp only[hz, fS]at ho;simp only[ho]
    have none_:∀i, ¬ aZ (Array.replicate ops.size false) i:=λi h=>by
      unfold aZ at h;simp only[afx]at h;rw[Array.getElem?_replicate]at h;split at h<;>simp at h
    have s1:Sim { w with drawn:=w.drawn+1 } G (Hp 0):=by rw[T.h0];exact s.world (afm _) λb _=>rfl
    have g1:Goes w G st.h { w with drawn:=w.drawn+1 } G st.h:=Goes.world s rfl rfl rfl (afm _) λb _=>rfl
    refine IW fit hO hco T cover ops.size _ a _ G 0 (λ_=>0) ?_ (λk d _ _ h=>absurd h (none_ _)) (by simp)
    refine { size := by simp, clo := fun j o _ h => absurd h (none_ j), lt := fun k d _ h => absurd h (none_ _), tm := hN, df := hd, le := Nat.zero_le m, sim := s1, goes := ?_, ne := by rw [T.h0]; exact hn,
             ld:=λk d _ _ h=>absurd h (agl k), al:=λk d _ _ h=>absurd h (none_ _), pd:=λk d t _ _ h=>absurd h (none_ _), pi:=λk k' d d' _ _ h=>absurd h (none_ _), wr:=λk d t _ _ h=>absurd h (none_ _), st:=λt _=>?_ }
    · rw[T.h0];exact g.trans g1
    · rw[T.h0];exact (r t).along g1
  · simp[evC]at he
