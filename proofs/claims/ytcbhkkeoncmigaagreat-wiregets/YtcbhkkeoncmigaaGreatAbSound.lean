/-
  Regions that draw their order: the walk of any order.
-/
import Derived.Test.YtcbhkkeoncmigaaGreatAbDraw2
set_option linter.unusedVariables false
set_option linter.unusedSimpArgs false
namespace Go.Ab
open Go.RowKit
variable {P:Program}
theorem keep_get' (live:List Nat) (e:Env) (t:Nat):get (keep live e) t=if t∈live then get e t else .top:=by
 unfold keep
 induction live with
 | nil=>simp [get]
 | cons u r ih=>
  simp only [List.map_cons,get,ih,List.mem_cons]
  by_cases h:u=t
  ·subst h;simp
  ·rw [if_neg h]
   have:¬ t=u:=fun e=>h e.symm
   simp [this]
def listedOf (listed:Array Bool) (i:Nat):Prop:=listed.getD i false=true
theorem listed_set {listed:Array Bool} {i j:Nat} (h:i < listed.size):listedOf (listed.setIfInBounds i true) j↔j=i∨listedOf listed j:=by
 unfold listedOf
 by_cases hij:i=j
 ·subst hij;simp [h]
 ·rw [getD_set_ne false hij]
  exact ⟨.inr,fun h=>h.resolve_left (fun e=>hij e.symm)⟩
theorem isAl_shape {c:CO} (h:isAl c=true):∃ s t z,c={ dst:=some s,gd:=none,op:=.m (.alloc t z false) }:=by
 unfold isAl at h
 split at h
 ·exact ⟨_,_,_,rfl⟩
 ·cases h
theorem al_run {H:Hints} {f:FuncId} {o:Oper} {t:TypeId} {z:AV} {b:Bool} (hop:cOp P H f o=.m (.alloc t z b)) :
  ∃ zv,z=ofV zv∧0 < z.cells.length∧∀ (a:Act) (w:World),(execOp a.eval o).run P w=.ok (.value (.pointer (some ⟨w.heap.size,0,none⟩))) (w.alloc (.cells zv.cells t)):=by
 unfold cOp at hop
 cases ho:o.op with
 | alloc t'=>
  simp only [ho] at hop
  split at hop
  ·rename_i ag sz z' hsh hz
   split at hop
   ·rename_i hpos
    injection hop with hop
    injection hop with e1 e2 e3
    subst e1;subst e2
    obtain ⟨i,zv,hi,hzv,hzz,hzl⟩:=zero_parts hz
    obtain ⟨d,i',_,hi',hisz,_⟩:=shape_parts hsh
    rw [hi] at hi'
    injection hi' with hi';subst hi'
    refine ⟨zv,hzz,by omega,fun a w=>?_⟩
    simp [execOp,ho,Instr.alloc,zeroValue,typeInfo,hi,hzv,newVar,newRow]
   ·split at hop<;>cases hop
  ·cases hop
 | _=>simp only [ho] at hop;repeat' (first | (cases hop;done) | split at hop)
structure Early (w0 w:World) (G:Gm) (h:Heap) (c:CO) (x:Value) (b:Nat):Prop where
 val:x=.pointer (some ⟨b,0,none⟩)
 row:∃ s t zv,c={ dst:=some s,gd:=none,op:=.m (.alloc t (ofV zv) false) }∧0 < (ofV zv).cells.length∧w.heap[b]?=some (.cells zv.cells t (0,0))
 free:¬ Held G h b
 imm:∀ o,¬ G.imm b o
 new:w0.heap.size≤b
theorem Early.lt {w0 w:World} {G:Gm} {h:Heap} {c:CO} {x:Value} {b:Nat} (e:Early w0 w G h c x b):b < w.heap.size:=by
 obtain ⟨_,_,_,_,_,h3⟩:=e.row
 exact (Array.getElem?_eq_some_iff.1 h3).1
theorem Early.along {w0 w w':World} {G G':Gm} {h h':Heap} {c:CO} {x:Value} {b:Nat} (e:Early w0 w G h c x b) (g:Goes w G h w' G' h'):Early w0 w' G' h' c x b where
 val:=e.val
 row:=by
  obtain ⟨s,t,zv,h1,h2,h3⟩:=e.row
  exact ⟨s,t,zv,h1,h2,(g.heap b e.lt e.free).trans h3⟩
 free hb:=e.free (g.img b hb e.lt)
 imm o ho:=e.imm o (g.nimm b o e.lt e.free ho)
 new:=e.new
theorem name_ok {w0 w:World} {G0 G:Gm} {h0 h:Heap} (s:Sim w G h) (hn:h≠[]) (g:Goes w0 G0 h0 w G h) {c:CO} {x:Value} {b:Nat} (e:Early w0 w G h c x b) {sl:Nat} {t:TypeId} {z:AV}
  (hc:c={ dst:=some sl,gd:=none,op:=.m (.alloc t z false) }) :
  Sim w (G.at_ (hnext h) (some b) none 0) (hnew h (.box t false z))∧Goes w0 G0 h0 w (G.at_ (hnext h) (some b) none 0) (hnew h (.box t false z)) ∧
  VRel w (G.at_ (hnext h) (some b) none 0) (dom (hnew h (.box t false z))) (.ptr (hnext h) 0) x ∧
  (∀ v y,VRel w G (dom h) v y→VRel w (G.at_ (hnext h) (some b) none 0) (dom (hnew h (.box t false z))) v y) ∧
  (∀ c' x' b',b'≠b→Early w0 w G h c' x' b'→Early w0 w (G.at_ (hnext h) (some b) none 0) (hnew h (.box t false z)) c' x' b'):=by
 obtain ⟨sl',t',zv,h1,h2,h3⟩:=e.row
 rw [hc] at h1
 injection h1 with _ _ h1
 injection h1 with h1
 injection h1 with e1 e2
 subst e1;subst e2
 have hne:∀ a,dom h a→a≠hnext h:=fun a ha e=>by rw [e] at ha;unfold dom at ha;rw [hnext_fresh h] at ha;cases ha
 have hv:=(vrel_ofV (w:=w) (G:=G.at_ (hnext h) (some b) none 0) (L:=domTo (hnew h (.box t false (ofV zv))) (hnext h).1) zv).cellsRel h2
 refine ⟨s.new_ hn (Nat.le_refl _) (fun _ _=>rfl) (fun k hk ea=>by injection hk with hk;subst hk;exact e.free ea) ?_,g.name hn e.new,?_,fun v y hy=>?_,fun c' x' b' hb k=>?_⟩
 ·exact ⟨b,zv.cells,by simp [Gm.at_],by simp [Gm.at_],h3,hv.1,fun j hj=>hv.2 j (by rw [←hv.1];exact hj),fun o ho=>absurd ho (e.imm o)⟩
 ·rw [e.val]
  exact .ptr _ _ _ _ ((dom_hnew hn _ _).2 (.inl rfl)) (by simp [Gm.at_]) (by simp [Gm.at_])
 ·exact hy.mono (fun b o hi=>⟨hi,rfl⟩) fun a ha=>⟨(dom_hnew hn a _).2 (.inr ha),.inl (by simp [Gm.at_,hne a ha])⟩
 ·refine ⟨k.val,k.row,fun hh=>?_,k.imm,k.new⟩
  rcases hh with ⟨a,ha,ea⟩ | hh
  ·rw [dom_hnew hn] at ha
   by_cases ca:a=hnext h
   ·simp [Gm.at_,ca] at ea
    exact hb ea.symm
   ·exact k.free (.of (ha.resolve_left ca) (by simpa [Gm.at_,ca] using ea))
  ·exact k.free (.inr hh)
structure Inv (N:Nat) (D:List Deferred) (w0:World) (G0:Gm) (h0:Heap) (ops:Array Oper) (ds:List DO) (st:St) (V:Nat→AV) (Hp:Nat→Heap) (m:Nat) (listed:Array Bool) (a:Act) (w:World) (G:Gm) (kh:Nat) (pb:Nat→Nat):Prop where
 size:listed.size=ops.size
 clo:∀ (j:Nat) (o:Oper),ops[j]?=some o→listedOf listed j→∀ e∈o.after,Region.binds .any e=true→listedOf listed e.on
 lt:∀ (k:Nat) (d:DO),ds[k]?=some d→listedOf listed d.ix→k < m∨(m < k∧isAl d.co=true)
 tm:a.tmps.size=N
 df:a.defers=D
 le:kh≤m
 sim:Sim w G (Hp kh)
 goes:Goes w0 G0 h0 w G (Hp kh)
 ne:Hp kh≠[]
 ld:∀ (k:Nat) (d:DO),ds[k]?=some d→loud d.co=true→k < kh→listedOf listed d.ix
 al:∀ (k:Nat) (d:DO),ds[k]?=some d→loud d.co=true→listedOf listed d.ix→kh≤k→isAl d.co=true
 pd:∀ (k:Nat) (d:DO) (t:Nat),ds[k]?=some d→loud d.co=true→listedOf listed d.ix→kh≤k→d.co.dst=some t→Early w0 w G (Hp kh) d.co (a.tmps.getD t undef) (pb k)
 pi:∀ (k k':Nat) (d d':DO),ds[k]?=some d→loud d.co=true→listedOf listed d.ix→kh≤k→ds[k']?=some d'→loud d'.co=true→listedOf listed d'.ix→kh≤k'→pb k=pb k'→k=k'
 wr:∀ (k:Nat) (d:DO) (t:Nat),ds[k]?=some d→d.co.dst=some t→listedOf listed d.ix→(loud d.co=true→k < kh)→VRel w G (dom (Hp kh)) (V k) (a.tmps.getD t undef)
 st:∀ (t:Nat),(∀ (k:Nat) (d:DO),ds[k]?=some d→d.co.dst=some t→¬ listedOf listed d.ix)→VRel w G (dom (Hp kh)) (get st.env t) (a.tmps.getD t undef)
def Mx (ds:List DO) (listed:Array Bool) (kh:Nat):Prop:=
 ∀ (k:Nat) (d:DO),ds[k]?=some d→loud d.co=true→listedOf listed d.ix→kh≤k→∃ (j:Nat) (c:DO),j < k∧ds[j]?=some c∧loud c.co=true∧¬ listedOf listed c.ix
section
variable {N:Nat} {D:List Deferred} {w0:World} {G0:Gm} {h0:Heap} {K:Cfg} {O:Orc} {ds:List DO} {st:St} {ex:Ex} {st':St} {V:Nat→AV} {E:Nat→Env} {Hp:Nat→Heap} {m:Nat} {ops:Array Oper}
 {listed:Array Bool} {a:Act} {w:World} {G:Gm} {kh:Nat} {pb:Nat→Nat}
structure Up (ops:Array Oper) (listed:Array Bool) (d:DO) (o:Oper):Prop where
 op:ops[d.ix]?=some o
 un:¬ listedOf listed d.ix
 on:∀ e∈o.after,Region.binds .any e=true→listedOf listed e.on
theorem Up.anc (fit:Fit ops ds) (I:Inv N D w0 G0 h0 ops ds st V Hp m listed a w G kh pb) {k:Nat} {d:DO} {o:Oper} (hd:ds[k]?=some d) (u:Up ops listed d o):∀ i∈d.anc,listedOf listed i:=fun i hi=>by
 obtain ⟨o',ho,_,h2⟩:=fit.op k d hd
 rw [u.op] at ho
 injection ho with ho
 subst ho
 obtain ⟨e,he,hb,h3⟩:=h2 i hi
 have hon:=u.on e he hb
 rcases h3 with rfl | ⟨p,c,_,h5,h6,h7⟩
 ·exact hon
 ·exact anc_closed fit I.clo p c h5 (h6▸hon) i h7
theorem Up.later (fit:Fit ops ds) (I:Inv N D w0 G0 h0 ops ds st V Hp m listed a w G kh pb) {k:Nat} {d:DO} {o:Oper} (hd:ds[k]?=some d) (u:Up ops listed d o) {j:Nat} {c:DO} (hc:ds[j]?=some c) (hl:listedOf listed c.ix):d.ix∉c.anc:=
 fun h=>u.un (anc_closed fit I.clo j c hc hl _ h)
theorem Inv.env (fit:Fit ops ds) (T:Trace K O ds [] st ex st' V E Hp m) (I:Inv N D w0 G0 h0 ops ds st V Hp m listed a w G kh pb) (M:Mx ds listed kh) {k:Nat} {d:DO} {o:Oper} (hd:ds[k]?=some d) (hk:k≤m) (u:Up ops listed d o) :
  EnvRel w G (dom (Hp kh)) (keep d.looks (E k)) a:=fun t=>by
 rw [keep_get']
 split
 ·rename_i ht
  by_cases hw:∃ (p:Nat) (c:DO),p < k∧ds[p]?=some c∧c.co.dst=some t
  ·obtain ⟨p,c,hp,hc,hct⟩:=hw
   rw [T.write fit hc hct k hp hk]
   have hl:=u.anc fit I hd _ (pairOk_looks (fit.pair p k c d hp hc hd) hct ht)
   refine I.wr p c t hc hct hl fun hlc=>?_
   rcases Nat.lt_or_ge p kh with h | h
   ·exact h
   ·obtain ⟨j,b,h1,h2,h3,h4⟩:=M p c hc hlc hl h
    exact absurd (u.anc fit I hd _ (fit.al j p k b c d t h1 hp h2 hc hd h3 (I.al p c hc hlc hl h) hct ht)) h4
  ·have hno:∀ (p:Nat) (c:DO),p < k→ds[p]?=some c→c.co.dst≠some t:=fun p c h1 h2 h3=>hw ⟨p,c,h1,h2,h3⟩
   rw [T.still k hk hno]
   refine I.st t fun k' d' h1 h2 h3=>?_
   rcases Nat.lt_trichotomy k' k with h | h | h
   ·exact hno k' d' h h1 h2
   ·subst h
    rw [hd] at h1
    injection h1 with h1
    subst h1
    exact u.un h3
   ·exact u.later fit I hd h1 h3 (pairOk_looked (fit.pair k k' d d' h hd h1) h2 ht)
 ·exact .top _ _
theorem Inv.loudAt (fit:Fit ops ds) (T:Trace K O ds [] st ex st' V E Hp m) (I:Inv N D w0 G0 h0 ops ds st V Hp m listed a w G kh pb) (M:Mx ds listed kh) {k:Nat} (hk:k≤m) (h1:kh≤k)
  (hall:∀ (j:Nat) (c:DO),j < k→ds[j]?=some c→loud c.co=true→listedOf listed c.ix):Hp k=Hp kh:=by
 refine T.heap k h1 hk fun i c h2 h3 hc=>?_
 by_cases hlc:loud c.co=true
 ·obtain ⟨j,b,k1,k2,k3,k4⟩:=M i c hc hlc (hall i c h3 hc hlc) h2
  exact absurd (hall j b (by omega) k2 k3) k4
 ·simpa using hlc
theorem Inv.next (fit:Fit ops ds) (I:Inv N D w0 G0 h0 ops ds st V Hp m listed a w G kh pb) {k:Nat} {d:DO} {o:Oper} (hd:ds[k]?=some d) (hk:k < m∨(m < k∧isAl d.co=true)) (u:Up ops listed d o) (hdst:d.co.dst=o.dst) (hin:inN N o.dst=true)
  {kh':Nat} {x:Value} {w':World} {G':Gm} (hle:kh'≤m) (hkk:kh≤kh') (s':Sim w' G' (Hp kh')) (g':Goes w G (Hp kh) w' G' (Hp kh'))
  (hv:(loud d.co=true→k < kh')→VRel w' G' (dom (Hp kh')) (V k) x)
  (hld:∀ (j:Nat) (c:DO),ds[j]?=some c→loud c.co=true→j < kh'→c.ix=d.ix∨listedOf listed c.ix)
  (hpe:∀ (j:Nat) (c:DO),ds[j]?=some c→loud c.co=true→listedOf listed c.ix→kh≤j→kh'≤j)
  {pb':Nat→Nat} (hpb:∀ j,j≠k→pb' j=pb j)
  (hnew:loud d.co=true→kh'≤k→isAl d.co=true∧Early w0 w' G' (Hp kh') d.co x (pb' k) ∧
   ∀ (j:Nat) (c:DO),ds[j]?=some c→loud c.co=true→listedOf listed c.ix→kh≤j→pb j≠pb' k) :
  Inv N D w0 G0 h0 ops ds st V Hp m (listed.setIfInBounds d.ix true) (a.put o.dst x) w' G' kh' pb':=by
 have hix:d.ix < listed.size:=by rw [I.size];exact (Array.getElem?_eq_some_iff.1 u.op).1
 have uniq:∀ (j:Nat) (c:DO),ds[j]?=some c→c.ix=d.ix→j=k:=fun j c hc he=>by
  rcases Nat.lt_trichotomy j k with h | h | h
  ·exact absurd he (pairOk_ix (fit.pair j k c d h hc hd))
  ·exact h
  ·exact absurd he.symm (pairOk_ix (fit.pair k j d c h hd hc))
 have slot:∀ t,(a.put o.dst x).tmps.getD t undef=if o.dst=some t then x else a.tmps.getD t undef:=fun t=>by
  cases hdd:o.dst with
  | none=>simp [Act.put]
  | some t'=>
   by_cases ht:t'=t
   ·subst ht
    rw [hdd] at hin
    simp only [inN,decide_eq_true_eq] at hin
    have:t' < a.tmps.size:=by rw [I.tm];exact hin
    simp [Act.put,this]
   ·have:¬ (some t'=some t):=fun e=>ht (by injection e)
    rw [if_neg this]
    simp [Act.put,Array.getD_eq_getD_getElem?,Array.getElem?_setIfInBounds_ne ht]
 refine { size:=by simp [I.size],clo:=?_,lt:=?_,tm:=by rw [put_size];exact I.tm,df:=by rw [put_defers];exact I.df,le:=hle,sim:=s',goes:=I.goes.trans g',ne:=?_,ld:=?_,al:=?_,pd:=?_,pi:=?_,wr:=?_,st:=?_ }
 ·intro j oj hj hl e he hb
  rw [listed_set hix] at hl ⊢
  rcases hl with rfl | hl
  ·rw [u.op] at hj
   injection hj with hj
   subst hj
   exact .inr (u.on e he hb)
  ·exact .inr (I.clo j oj hj hl e he hb)
 ·intro j c hc hl
  rw [listed_set hix] at hl
  rcases hl with hl | hl
  ·have hjk:=uniq j c hc hl
   subst hjk
   rw [hd] at hc
   injection hc with hc
   subst hc
   exact hk
  ·exact I.lt j c hc hl
 ·intro e0
  have:=g'.depth
  rw [e0] at this
  have hne:=I.ne
  cases hs:Hp kh<;>simp_all
 ·intro j c hc hl hj
  rw [listed_set hix]
  exact hld j c hc hl hj
 ·intro j c hc hlc hl hj
  rw [listed_set hix] at hl
  rcases hl with hl | hl
  ·have hjk:=uniq j c hc hl
   subst hjk
   rw [hd] at hc
   injection hc with hc
   subst hc
   exact (hnew hlc hj).1
  ·exact I.al j c hc hlc hl (by omega)
 ·intro j c t hc hlc hl hj ht
  rw [listed_set hix] at hl
  rw [slot]
  rcases hl with hl | hl
  ·have hjk:=uniq j c hc hl
   subst hjk
   rw [hd] at hc
   injection hc with hc
   subst hc
   rw [if_pos (by rw [←hdst];exact ht)]
   exact (hnew hlc hj).2.1
  ·have hjk:j≠k:=fun e=>by subst e;rw [hd] at hc;injection hc with hc;subst hc;exact u.un hl
   have hne:o.dst≠some t:=by
    rw [←hdst]
    rcases Nat.lt_or_gt_of_ne hjk with h | h
    ·exact pairOk_dst (fit.pair j k c d h hc hd) ht
    ·intro e;exact pairOk_dst (fit.pair k j d c h hd hc) e ht
   rw [if_neg hne,hpb j hjk]
   exact (I.pd j c t hc hlc hl (by omega) ht).along g'
 ·intro j j' c c' hc hlc hl hj hc' hlc' hl' hj' he
  rw [listed_set hix] at hl hl'
  have cs:∀ (i:Nat) (b:DO),ds[i]?=some b→b.ix=d.ix∨listedOf listed b.ix→i=k∨(i≠k∧listedOf listed b.ix):=fun i b hb hx=>by
   rcases hx with hx | hx
   ·exact .inl (uniq i b hb hx)
   ·by_cases e:i=k
    ·exact .inl e
    ·exact .inr ⟨e,hx⟩
  rcases cs j c hc hl with h1 | ⟨h1,h2⟩
  ·rcases cs j' c' hc' hl' with k1 | ⟨k1,k2⟩
   ·rw [h1,k1]
   ·subst h1
    rw [hd] at hc
    injection hc with hc
    subst hc
    rw [hpb j' k1] at he
    exact absurd he.symm ((hnew hlc hj).2.2 j' c' hc' hlc' k2 (by omega))
  ·rcases cs j' c' hc' hl' with k1 | ⟨k1,k2⟩
   ·subst k1
    rw [hd] at hc'
    injection hc' with hc'
    subst hc'
    rw [hpb j h1] at he
    exact absurd he ((hnew hlc' hj').2.2 j c hc hlc h2 (by omega))
   ·rw [hpb j h1,hpb j' k1] at he
    exact I.pi j j' c c' hc hlc h2 (by omega) hc' hlc' k2 (by omega) he
 ·intro j c t hc ht hl hlk
  rw [listed_set hix] at hl
  rw [slot]
  rcases hl with hl | hl
  ·have hjk:=uniq j c hc hl
   subst hjk
   rw [hd] at hc
   injection hc with hc
   subst hc
   rw [if_pos (by rw [←hdst];exact ht)]
   exact hv hlk
  ·have hjk:j≠k:=fun e=>by subst e;rw [hd] at hc;injection hc with hc;subst hc;exact u.un hl
   have hne:o.dst≠some t:=by
    rw [←hdst]
    rcases Nat.lt_or_gt_of_ne hjk with h | h
    ·exact pairOk_dst (fit.pair j k c d h hc hd) ht
    ·intro e;exact pairOk_dst (fit.pair k j d c h hd hc) e ht
   rw [if_neg hne]
   by_cases hlc:loud c.co=true
   ·rcases Nat.lt_or_ge j kh with h | h
    ·exact (I.wr j c t hc ht hl fun _=>h).along g'
    ·exact absurd (hlk hlc) (Nat.not_lt.2 (hpe j c hc hlc hl h))
   ·exact (I.wr j c t hc ht hl fun e=>absurd e hlc).along g'
 ·intro t ht
  have hne:o.dst≠some t:=fun e=>ht k d hd (by rw [hdst];exact e) ((listed_set hix).2 (.inl rfl))
  rw [slot,if_neg hne]
  exact (I.st t fun j c hc hct hl=>ht j c hc hct ((listed_set hix).2 (.inr hl))).along g'
theorem Inv.last (T:Trace K O ds [] st ex st' V E Hp m) (I:Inv N D w0 G0 h0 ops ds st V Hp m listed a w G kh pb) (hk:m≤kh):Mx ds listed kh:=fun k d hd _ hl hk=>by
 rcases I.lt k d hd hl with h | ⟨h,_⟩
 ·omega
 ·rcases T.fin with ⟨_,hm,_⟩ | ⟨c,q,v,h',hcm,_,hop,hq,_⟩
  ·have:=(List.getElem?_eq_some_iff.1 hd).1
   omega
  ·refine ⟨m,c,h,hcm,by simp [loud,hop,hq],fun hli=>?_⟩
   rcases I.lt m c hcm hli with h | ⟨h,_⟩<;>omega
theorem Inv.advance (T:Trace K O ds [] st ex st' V E Hp m):∀ (n:Nat) (G:Gm) (kh:Nat), m - kh≤n→Inv N D w0 G0 h0 ops ds st V Hp m listed a w G kh pb →
    ∃ G' kh', Inv N D w0 G0 h0 ops ds st V Hp m listed a w G' kh' pb∧Mx ds listed kh'
  | 0, G, kh, hn, I=>⟨G, kh, I, I.last T (by omega)⟩
  | n+1, G, kh, hn, I=>by
    by_cases hm:kh < m
    · have hlt:kh < ds.length:=by have:=T.le;omega
      obtain ⟨d, hd⟩:∃ d, ds[kh]?=some d:=⟨ds[kh], List.getElem?_eq_getElem hlt⟩
      by_cases hlo:loud d.co=true
      · by_cases hli:listedOf listed d.ix
        · -- its turn
          obtain ⟨sl, t, z, hco⟩:=isAl_shape (I.al kh d hd hlo hli (Nat.le_refl _))
          have e:=I.pd kh d sl hd hlo hli (Nat.le_refl _) (by rw [hco])
          obtain ⟨k1, k2, k3, k4, k5⟩:=name_ok I.sim I.ne I.goes e hco
          have hst:=T.stp kh d hm hd
          have hstep:V kh=.ptr (hnext (Hp kh)) 0∧Hp (kh+1)=hnew (Hp kh) (.box t false z):=by
            unfold StepOK at hst
            rw [hco] at hst
            rcases hst with ⟨h1, _⟩ | ⟨_, ⟨q, h1, _⟩ | ⟨q, h1, h2, _⟩ | ⟨q, h1, _, h3⟩⟩
            · simp [wanted] at h1
            · cases h1
            · simp only [COp.m.injEq] at h1;subst h1;simp [quietM] at h2
            · simp only [COp.m.injEq] at h1;subst h1
              simp only [hco, evM, Bool.false_eq_true, if_false, Option.some.injEq, Out.val.injEq] at h3
              exact ⟨h3.1.symm, h3.2.symm⟩
          obtain ⟨hV, hH⟩:=hstep
          have distinct:∀ (k:Nat) (c:DO), ds[k]?=some c→loud c.co=true→listedOf listed c.ix→kh+1≤k→pb k≠pb kh:=fun k c hc hlc hl hk he=>by
            have:=I.pi k kh c d hc hlc hl (by omega) hd hlo hli (Nat.le_refl _) he
            omega
          refine Inv.advance T n _ (kh+1) (by omega) (?_:Inv N D w0 G0 h0 ops ds st V Hp m listed a w (G.at_ (hnext (Hp kh)) (some (pb kh)) none 0) (kh+1) pb)
          refine { size := I.size, clo := I.clo, lt := I.lt, tm := I.tm, df := I.df, le := hm, sim := by rw [hH]; exact k1, goes := by rw [hH]; exact k2, ne := ?_, ld := ?_, al := fun k c hc hlc hl hk => I.al k c hc hlc hl (by omega),
                   pd:=?_, pi:=fun k k' c c' h1 h2 h3 h4 h5 h6 h7 h8=>I.pi k k' c c' h1 h2 h3 (by omega) h5 h6 h7 (by omega), wr:=?_, st:=?_ }
          · rw [hH]
            intro e0
            have:=hnew_length (Hp kh) (.box t false z)
            rw [e0] at this
            have hne:=I.ne
            cases hs:Hp kh<;>simp_all
          · intro k c hc hlc hk
            rcases Nat.lt_or_ge k kh with h | h
            · exact I.ld k c hc hlc h
            · have:k=kh:=by omega
              subst this
              rw [hd] at hc
              injection hc with hc
              subst hc
              exact hli
          · intro k c u hc hlc hl hk hu
            rw [hH]
            exact k5 _ _ _ (distinct k c hc hlc hl hk) (I.pd k c u hc hlc hl (by omega) hu)
          · intro k c u hc hu hl hk
            rw [hH]
            by_cases hkk:k=kh
            · subst hkk
              rw [hd] at hc
              injection hc with hc
              subst hc
              rw [hco] at hu
              injection hu with hu
              subst hu
              rw [hV]
              exact k3
            · refine k4 _ _ (I.wr k c u hc hu hl fun hlc=>?_)
              have:=hk hlc
              omega
          · intro u hu
            rw [hH]
            exact k4 _ _ (I.st u hu)
        · exact ⟨G, kh, I, fun k c hc hlc hl hk=>by
            refine ⟨kh, d, ?_, hd, hlo, hli⟩
            rcases Nat.lt_or_ge kh k with h | h
            · exact h
            · have:k=kh:=by omega
              subst this
              rw [hd] at hc
              injection hc with hc
              subst hc
              exact absurd hl hli⟩
      · have hH:Hp (kh+1)=Hp kh:=(T.stp kh d hm hd).heap (by simpa using hlo)
        have nk:∀ (k:Nat) (c:DO), ds[k]?=some c→loud c.co=true→k≠kh:=fun k c hc hlc e=>by
          subst e
          rw [hd] at hc
          injection hc with hc
          subst hc
          exact hlo hlc
        refine Inv.advance T n G (kh+1) (by omega) ?_
        exact { size := I.size, clo := I.clo, lt := I.lt, tm := I.tm, df := I.df, le := hm, sim := by rw [hH]; exact I.sim, goes := by rw [hH]; exact I.goes, ne := by rw [hH]; exact I.ne,
                ld:=fun k c hc hlc hk=>I.ld k c hc hlc (by have:=nk k c hc hlc;omega), al:=fun k c hc hlc hl hk=>I.al k c hc hlc hl (by omega),
                pd:=fun k c u hc hlc hl hk hu=>by rw [hH];exact I.pd k c u hc hlc hl (by omega) hu,
                pi:=fun k k' c c' h1 h2 h3 h4 h5 h6 h7 h8=>I.pi k k' c c' h1 h2 h3 (by omega) h5 h6 h7 (by omega),
                wr:=fun k c u hc hu hl hk=>by rw [hH];exact I.wr k c u hc hu hl fun hlc=>by have:=hk hlc;have:=nk k c hc hlc;omega,
                st:=fun u hu=>by rw [hH];exact I.st u hu }
    · exact ⟨G, kh, I, I.last T (by omega)⟩
theorem Inv.done (fit:Fit ops ds) (T:Trace K O ds [] st ex st' V E Hp m) (I:Inv N D w0 G0 h0 ops ds st V Hp m listed a w G kh pb) (M:Mx ds listed kh) (hr:Region.ready .any ops listed=[]):Post N D w0 G0 h0 ex st' .normal a w:=by
 have all:∀ (k:Nat) (d:DO),ds[k]?=some d→listedOf listed d.ix:=fun k=>by
  induction k using Nat.strongRecOn with
  | ind k ih=>
   intro d hd
   by_cases h:listedOf listed d.ix
   ·exact h
   ·obtain ⟨o,ho,h1,_⟩:=fit.op k d hd
    have hlt:d.ix < listed.size:=by rw [I.size];exact (Array.getElem?_eq_some_iff.1 ho).1
    have:d.ix∈Region.ready .any ops listed:=mem_ready.2 ⟨by unfold listedOf at h;simpa [Array.getD,hlt] using h,o,ho,fun e he hb=>by
     obtain ⟨p,c,hp,hc,hce⟩:=h1 e he hb
     have:=ih p hp c hc
     rw [hce] at this
     exact this⟩
    rw [hr] at this
    cases this
 rcases T.fin with ⟨rfl,hm,rfl⟩ | ⟨d,q,v,h,hd,_⟩
 ·have hh:Hp m=Hp kh:=T.heap m I.le (Nat.le_refl m) fun i c h1 h2 hc=>by
   by_cases hlc:loud c.co=true
   ·obtain ⟨j,b,_,k2,_,k4⟩:=M i c hc hlc (all i c hc) h1
    exact absurd (all j b k2) k4
   ·simpa using hlc
  refine ⟨G,by rw [hh];exact I.sim,by simp only [hh];exact I.goes,fun t=>?_,I.tm,I.df,rfl⟩
  simp only [hh]
  by_cases hw:∃ (p:Nat) (c:DO),p < m∧ds[p]?=some c∧c.co.dst=some t
  ·obtain ⟨p,c,hp,hc,hct⟩:=hw
   rw [T.write fit hc hct m hp (Nat.le_refl m)]
   refine I.wr p c t hc hct (all p c hc) fun hlc=>?_
   rcases Nat.lt_or_ge p kh with h | h
   ·exact h
   ·obtain ⟨j,b,_,k2,_,k4⟩:=M p c hc hlc (all p c hc) h
    exact absurd (all j b k2) k4
  ·rw [T.still m (Nat.le_refl m) fun p c h1 h2 h3=>hw ⟨p,c,h1,h2,h3⟩]
   exact I.st t fun k d h1 h2 h3=>hw ⟨k,d,by have:=(List.getElem?_eq_some_iff.1 h1).1;omega,h1,h2⟩
 ·rcases I.lt m d hd (all m d hd) with h | ⟨h,_⟩<;>exact absurd h (Nat.lt_irrefl m)
theorem Inv.step (fit:Fit ops ds) {H:Hints} {f:FuncId} (hO:FnSound P O) (hco:∀ (k:Nat) (d:DO) (o:Oper),ds[k]?=some d→ops[d.ix]?=some o→d.co=cOper P H f N ops o)
  (T:Trace K O ds [] st ex st' V E Hp m) (I:Inv N D w0 G0 h0 ops ds st V Hp m listed a w G kh pb) (M:Mx ds listed kh) {i:Nat} (hi:i∈Region.ready .any ops listed) {Kp:Act→World→Prop}
  (kk:∀ a' w' G' kh' pb',Inv N D w0 G0 h0 ops ds st V Hp m (listed.setIfInBounds i true) a' w' G' kh' pb'→Mx ds (listed.setIfInBounds i true) kh'→Kp a' w')
  (cover:∀ i,i < ops.size→∃ d∈ds,d.ix=i):wpOp P ops (Post N D w0 G0 h0 ex st') i Kp a w:=by
 obtain ⟨hun,o,ho,hon⟩:=mem_ready.1 hi
 have hlt:i < listed.size:=by rw [I.size];exact (Array.getElem?_eq_some_iff.1 ho).1
 obtain ⟨d,hdm,hdi⟩:=cover i (by rw [←I.size];exact hlt)
 obtain ⟨p,hd⟩:=List.getElem?_of_mem hdm
 subst hdi
 have k:∀ a' w' G' kh' pb',Inv N D w0 G0 h0 ops ds st V Hp m (listed.setIfInBounds d.ix true) a' w' G' kh' pb'→Kp a' w':=fun a' w' G' kh' pb' I'=>by
  obtain ⟨G2,kh2,I2,M2⟩:=Inv.advance T _ G' kh' (Nat.le_refl _) I'
  exact kk a' w' G2 kh2 pb' I2 M2
 have u:Up ops listed d o:=⟨ho,(fun h=>by unfold listedOf at h;simp [Array.getD,hlt] at h hun;rw [h] at hun;cases hun),hon⟩
 have hc:=hco p d o hd ho
 have hdst:d.co.dst=o.dst:=by rw [hc];unfold cOper;split<;>(try split)<;>rfl
 have uniq:∀ (j:Nat) (c:DO),ds[j]?=some c→c.ix=d.ix→j=p:=fun j c hc he=>by
  rcases Nat.lt_trichotomy j p with h | h | h
  ·exact absurd he (pairOk_ix (fit.pair j p c d h hc hd))
  ·exact h
  ·exact absurd he.symm (pairOk_ix (fit.pair p j d c h hd hc))
 have anc:∀ (j:Nat) (c:DO),j < p→ds[j]?=some c→loud c.co=true→isAl d.co=false→listedOf listed c.ix:=fun j c hj hc hlc hna=>by
  rcases pairOk_loud (fit.pair j p c d hj hc hd) hlc with h | h
  ·exact u.anc fit I hd _ h
  ·rw [hna] at h;cases h
 have inTurn:p≤m→(∀ (j:Nat) (c:DO),j < p→ds[j]?=some c→loud c.co=true→listedOf listed c.ix)→loud d.co=true→kh≤p∧Hp p=Hp kh ∧
   (∀ (j:Nat) (c:DO),ds[j]?=some c→loud c.co=true→j < p+1→c.ix=d.ix∨listedOf listed c.ix) ∧
   (∀ (j:Nat) (c:DO),ds[j]?=some c→loud c.co=true→listedOf listed c.ix→kh≤j→p+1≤j):=fun hpm hall hl=>by
  have h1:kh≤p:=by
   rcases Nat.lt_or_ge p kh with h | h
   ·exact absurd (I.ld p d hd hl h) u.un
   ·exact h
  refine ⟨h1,I.loudAt fit T M hpm h1 hall,fun j c hc hlc hj=>?_,fun j c hc hlc hli hj=>?_⟩
  ·rcases Nat.lt_or_ge j p with h | h
   ·exact .inr (hall j c h hc hlc)
   ·have:j=p:=by omega
    subst this
    rw [hd] at hc
    injection hc with hc
    subst hc
    exact .inl rfl
  ·rcases Nat.lt_trichotomy j p with h | h | h
   ·obtain ⟨i,b,k1,k2,k3,k4⟩:=M j c hc hlc hli hj
    exact absurd (hall i b (by omega) k2 k3) k4
   ·subst h
    rw [hd] at hc
    injection hc with hc
    subst hc
    exact absurd hli u.un
   ·exact h
 have notAl:loud d.co=false→isAl d.co=false:=fun hl=>by
  cases hx:isAl d.co with
  | false=>rfl
  | true=>
   obtain ⟨_,_,_,hco⟩:=isAl_shape hx
   rw [hco] at hl
   simp [loud,quietM] at hl
 have shape:d.co.op≠.bad→∃ gd,cGuard ops o.guard=some gd∧inN N o.dst=true∧d.co={ dst:=o.dst,gd:=gd,op:=cOp P H f o }:=fun hb=>by
  rw [hc] at hb ⊢
  unfold cOper at hb ⊢
  split at hb
  ·exact absurd rfl hb
  ·rename_i gd hgd
   split at hb
   ·rename_i hin
    simp only [hgd,hin,if_true]
    exact ⟨gd,rfl,trivial,rfl⟩
   ·exact absurd rfl hb
 have shape':d.co.gd≠none→∃ gd,cGuard ops o.guard=some gd∧inN N o.dst=true∧d.co={ dst:=o.dst,gd:=gd,op:=cOp P H f o }:=fun hb=>by
  rw [hc] at hb ⊢
  unfold cOper at hb ⊢
  split at hb
  ·exact absurd rfl hb
  ·rename_i gd hgd
   split at hb
   ·rename_i hin
    simp only [hgd,hin,if_true]
    exact ⟨gd,rfl,trivial,rfl⟩
   ·exact absurd rfl hb
 have earlyOk:isAl d.co=true→(p < m∨(m < p∧isAl d.co=true))→kh≤p→d.co.op=cOp P H f o→loud d.co=true→inN N o.dst=true→Oper.wp P o a w Kp (Post N D w0 G0 h0 ex st'):=fun hal hp hkp hop' hl hin=>by
  obtain ⟨sl,t,z,hco⟩:=isAl_shape hal
  have hq:cOp P H f o=.m (.alloc t z false):=by rw [←hop',hco]
  obtain ⟨zv,hz,hpos,hrun⟩:=al_run hq
  have hb:∀ b,b < w.heap.size→(w.alloc (.cells zv.cells t)).heap[b]?=w.heap[b]?:=fun b hb=>heap_alloc_old w _ hb
  have g1:Goes w G (Hp kh) (w.alloc (.cells zv.cells t)) G (Hp kh):=Goes.world I.sim rfl rfl rfl (by simp) hb
  have s1:Sim (w.alloc (.cells zv.cells t)) G (Hp kh):=I.sim.world (by simp) hb
  have hsz:w0.heap.size≤w.heap.size:=I.goes.size
  unfold Oper.wp
  rw [hrun]
  refine k _ _ _ _ (fun j=>if j=p then w.heap.size else pb j) (I.next fit hd hp u hdst hin I.le (Nat.le_refl _) s1 g1 (fun h=>by have:=h hl;omega) (fun j c hc hlc hj=>.inr (I.ld j c hc hlc hj)) (fun _ _ _ _ _ h=>h)
   (fun j hj=>by simp [hj]) (fun _ _=>⟨hal,?_,fun j c hc hlc hli hj=>?_⟩))
  ·simp only [if_true]
   refine ⟨rfl,⟨sl,t,zv,by rw [hco,hz],by rw [←hz];exact hpos,heap_alloc_new w _⟩,fun e=>?_,fun q hq'=>?_,hsz⟩
   ·have:=I.sim.held e
    omega
   ·have:=I.sim.imm _ _ hq'
    omega
  ·simp only [if_true]
   have hcal:=I.al j c hc hlc hli hj
   obtain ⟨sl',t',z',hco'⟩:=isAl_shape hcal
   have:=(I.pd j c sl' hc hlc hli hj (by rw [hco'])).lt
   omega
 unfold wpOp
 simp only [ho]
 rcases Nat.lt_or_ge m p with hmp | hpm
 ·
  rcases T.fin with ⟨_,hm,_⟩ | ⟨c,q,v,h,hcm,_,hop,hq,hev,_⟩
  ·have:=(List.getElem?_eq_some_iff.1 hd).1
   omega
  ·rcases pairOk_loud (fit.pair m p c d hmp hcm hd) (by simp [loud,hop,hq]) with h2 | hal
   ·rcases I.lt m c hcm (u.anc fit I hd _ h2) with h | ⟨h,_⟩<;>omega
   ·obtain ⟨sl,t,z,hco⟩:=isAl_shape hal
    obtain ⟨gd,hgd,hin,hco'⟩:=shape (by rw [hco];intro e;cases e)
    have hgn:gd=none:=by rw [hco] at hco';injection hco' with _ h;exact h.symm
    subst hgn
    have r0:EnvRel w G (dom (Hp kh)) [] a:=fun t=>.top _ _
    rw [if_pos (wanted_ok r0 hgd rfl)]
    refine .inl ?_
    exact earlyOk hal (.inr ⟨hmp,hal⟩) (by have:=I.le;omega) (by rw [hco']) (by rw [hco];rfl) hin
 have r:=I.env fit T M hd hpm u
 rcases Nat.lt_or_ge p m with hp | hp
 ·rcases T.stp p d hp hd with ⟨hw,hV,hH⟩ | ⟨hw,hS⟩
  ·
   have hg:d.co.gd≠none:=fun e=>by rw [e] at hw;simp [wanted] at hw
   obtain ⟨gd,hgd,hin,hco'⟩:=shape' hg
   rw [hco'] at hw
   have hwt:=wanted_ok r hgd hw
   rw [if_neg (by rw [hwt];simp)]
   have hv:∀ {w':World} {G':Gm} {L:Loc→Prop},VRel w' G' L (V p) undef:=by intro w' G' L;rw [hV];exact .tup _ _ _ rfl fun i hi=>by simp at hi
   by_cases hl:loud d.co=true
   ·have hna:isAl d.co=false:=by
     cases hx:isAl d.co with
     | false=>rfl
     | true=>
      obtain ⟨_,_,_,hco⟩:=isAl_shape hx
      rw [hco] at hg
      exact absurd rfl hg
    obtain ⟨h1,h2,h3,h4⟩:=inTurn hpm (fun j c hj hc hlc=>anc j c hj hc hlc hna) hl
    have hH':Hp (p+1)=Hp kh:=hH.trans h2
    exact k _ _ _ _ _ (I.next fit hd (.inl hp) u hdst hin (kh':=p+1) (by omega) (by omega) (by rw [hH'];exact I.sim) (by rw [hH'];exact Goes.refl _ _ _) (fun _=>hv) h3 h4 (fun _ _=>rfl) (fun _ h=>by omega))
   ·exact k _ _ _ _ _ (I.next fit hd (.inl hp) u hdst hin I.le (Nat.le_refl _) I.sim (Goes.refl _ _ _) (fun _=>hv) (fun j c hc hlc hj=>.inr (I.ld j c hc hlc hj)) (fun _ _ _ _ _ h=>h) (fun _ _=>rfl) (fun h=>absurd h hl))
  ·have hb:d.co.op≠.bad:=fun e=>by rcases hS with ⟨q,h1,_⟩ | ⟨q,h1,_⟩ | ⟨q,h1,_⟩<;>rw [e] at h1<;>cases h1
   obtain ⟨gd,hgd,hin,hco'⟩:=shape hb
   have hop':d.co.op=cOp P H f o:=by rw [hco']
   have hw':=hw
   rw [hco'] at hw'
   have hwt:=wanted_ok r hgd hw'
   rw [if_pos hwt]
   refine .inl ?_
   rcases hS with ⟨q,h1,h2,h3⟩ | ⟨q,h1,h2,h3,h4⟩ | ⟨q,h1,h2,h3⟩
   ·rw [hop'] at h1
    refine op_pure h1 r h2 fun x hx=>?_
    have hl:¬ loud d.co=true:=by simp [loud,hop',h1]
    exact k _ _ _ _ _ (I.next fit hd (.inl hp) u hdst hin I.le (Nat.le_refl _) I.sim (Goes.refl _ _ _) (fun _=>hx) (fun j c hc hlc hj=>.inr (I.ld j c hc hlc hj)) (fun _ _ _ _ _ h=>h) (fun _ _=>rfl) (fun h=>absurd h hl))
   ·have hlf:loud d.co=false:=by simp [loud,h1,h2]
    have hq:evQ K O q (keep d.looks (E p)) (Hp kh)=some (V p):=by
     rcases Nat.lt_or_ge kh p with hlt' | hge
     ·have hh:Hp p=Hp kh:=T.heap p (by omega) hpm fun j c e1 e2 hc=>by
       by_cases hlc:loud c.co=true
       ·obtain ⟨i,b,k1,k2,k3,k4⟩:=M j c hc hlc (anc j c e2 hc hlc (notAl hlf)) e1
        exact absurd (anc i b (by omega) k2 k3 (notAl hlf)) k4
       ·simpa using hlc
      rw [←hh]
      exact T.later hd hp h1 h2 hw p (Nat.le_refl p) hpm fun j c e1 e2=>by omega
     ·refine T.later hd hp h1 h2 hw kh hge I.le fun j c e1 e2 hc hlc=>?_
      exact pairOk_re (fit.pair p j d c e1 hd hc) hlc (by simp [quietC,h1,h2]) (u.later fit I hd hc (I.ld j c hc hlc e2))
    rw [hop'] at h1
    refine op_val hO h1 I.sim I.ne r (evQ_evM hq) fun x w' G' s' g' hx=>?_
    exact k _ _ _ _ _ (I.next fit hd (.inl hp) u hdst hin I.le (Nat.le_refl _) s' g' (fun _=>hx) (fun j c hc hlc hj=>.inr (I.ld j c hc hlc hj)) (fun _ _ _ _ _ h=>h) (fun _ _=>rfl) (fun h=>by rw [hlf] at h;cases h))
   ·have hl:loud d.co=true:=by simp [loud,h1,h2]
    rw [hop'] at h1
    by_cases hall:∀ (j:Nat) (c:DO),j < p→ds[j]?=some c→loud c.co=true→listedOf listed c.ix
    ·obtain ⟨e0,e2,e3,e4⟩:=inTurn hpm hall hl
     rw [e2] at h3
     refine op_val hO h1 I.sim I.ne r h3 fun x w' G' s' g' hx=>?_
     exact k _ _ _ _ _ (I.next fit hd (.inl hp) u hdst hin (kh':=p+1) (by omega) (by omega) s' g' (fun _=>hx) e3 e4 (fun _ _=>rfl) (fun _ h=>by omega))
    ·
     have hkp:kh≤p:=by
      rcases Nat.lt_or_ge p kh with h | h
      ·exact absurd (I.ld p d hd hl h) u.un
      ·exact h
     have hal:isAl d.co=true:=by
      cases hx:isAl d.co with
      | true=>rfl
      | false=>exact absurd (fun j c hj hc hlc=>anc j c hj hc hlc hx) hall
     exact earlyOk hal (.inl hp) hkp hop' hl hin
 ·have hpe:p=m:=by omega
  subst hpe
  rcases T.fin with ⟨_,hm,_⟩ | ⟨c,q,v,h,hcm,hw,hop,hq,hev,rfl,rfl⟩
  ·have:=(List.getElem?_eq_some_iff.1 hd).1
   omega
  ·rw [hd] at hcm
   injection hcm with hcm
   subst hcm
   have hb:d.co.op≠.bad:=fun e=>by rw [e] at hop;cases hop
   obtain ⟨gd,hgd,hin,hco'⟩:=shape hb
   have hop':d.co.op=cOp P H f o:=by rw [hco']
   have hw':=hw
   rw [hco'] at hw'
   have hwt:=wanted_ok r hgd hw'
   rw [if_pos hwt]
   refine .inl ?_
   have hl:loud d.co=true:=by simp [loud,hop,hq]
   have hna:isAl d.co=false:=by
    cases hx:isAl d.co with
    | false=>rfl
    | true=>
     obtain ⟨_,_,_,hco⟩:=isAl_shape hx
     rw [hco] at hop
     simp only [COp.m.injEq] at hop
     subst hop
     simp [evM] at hev
   obtain ⟨e1,e2,_,_⟩:=inTurn hpm (fun j c hj hc hlc=>anc j c hj hc hlc hna) hl
   rw [hop'] at hop
   rw [e2] at hev
   refine op_pan hO hop I.sim r hev fun x w' G' s' g' hx=>?_
   exact ⟨G',s',I.goes.trans g',fun t=>.top _ _,I.tm,I.df,x,rfl,hx⟩
theorem count_set:∀ (l:List Bool) (i:Nat),l[i]?=some false→(l.set i true).count false+1=l.count false
 | [],i,h=>by simp at h
 | b :: l,0,h=>by
  simp only [List.getElem?_cons_zero,Option.some.injEq] at h
  subst h
  simp
 | b :: l,i+1,h=>by
  have:=count_set l i (by simpa using h)
  simp only [List.set_cons_succ,List.count_cons]
  omega
theorem draw_any (fit:Fit ops ds) {H:Hints} {f:FuncId} (hO:FnSound P O) (hco:∀ (k:Nat) (d:DO) (o:Oper),ds[k]?=some d→ops[d.ix]?=some o→d.co=cOper P H f N ops o)
  (T:Trace K O ds [] st ex st' V E Hp m) (cover:∀ i,i < ops.size→∃ d∈ds,d.ix=i):∀ (fuel:Nat) (listed:Array Bool) (a:Act) (w:World) (G:Gm) (kh:Nat) (pb:Nat→Nat),
  Inv N D w0 G0 h0 ops ds st V Hp m listed a w G kh pb→Mx ds listed kh→listed.toList.count false≤fuel→wpAny P .any ops (Post N D w0 G0 h0 ex st') fuel listed a w
 | 0,listed,a,w,G,kh,pb,I,M,hc=>by
  have hr:Region.ready .any ops listed=[]:=by
   refine List.eq_nil_iff_forall_not_mem.2 fun i hi=>?_
   obtain ⟨hun,o,ho,_⟩:=mem_ready.1 hi
   have hlt:i < listed.size:=by rw [I.size];exact (Array.getElem?_eq_some_iff.1 ho).1
   have:false∈listed.toList:=by
    have e:listed[i]'hlt=false:=by simpa [Array.getD,hlt] using hun
    rw [←e];simp
   have:=List.count_pos_iff.2 this
   omega
  exact ⟨hr,I.done fit T M hr⟩
 | fuel+1,listed,a,w,G,kh,pb,I,M,hc=>by
  refine ⟨fun hr=>I.done fit T M hr,fun i hi=>?_⟩
  refine I.step fit hO hco T M hi (fun a' w' G' kh' pb' I' M'=>draw_any fit hO hco T cover fuel _ a' w' G' kh' pb' I' M' ?_) cover
  obtain ⟨hun,o,ho,_⟩:=mem_ready.1 hi
  have hlt:i < listed.size:=by rw [I.size];exact (Array.getElem?_eq_some_iff.1 ho).1
  have e:listed[i]'hlt=false:=by simpa [Array.getD,hlt] using hun
  have:=count_set listed.toList i (by rw [Array.getElem?_toList,Array.getElem?_eq_getElem hlt,e])
  rw [Array.toList_setIfInBounds]
  omega
end
theorem evD_bare (K:Cfg) (O:Orc):∀ (ds:List DO) (pd:Pend) (s:St),evD K O (ds.map bare) pd s=evD K O ds pd s
 | [],_,_=>rfl
 | d :: r,pd,s=>by simp only [List.map_cons,evD,bare,evD_bare K O r]
theorem draw_ok {O:Orc} (hO:FnSound P O) {H:Hints} {f:FuncId} {N:Nat} {D:List Deferred} {K:Cfg} {id:Nat} {ops:Array Oper} {hs:List (Nat×List Nat×List Nat)} {st:St} {ex:Ex} {st':St}
    (he:evC K O (cDraw P H f N ops hs) st=some (ex, st')) {w0:World} {G0:Gm} {h0:Heap} {w:World} {G:Gm} {a:Act} (g:Goes w0 G0 h0 w G st.h) (s:Sim w G st.h) (hn:st.h≠[]) (r:EnvRel w G (dom st.h) st.env a)
    (hN:a.tmps.size=N) (hd:a.defers=D):(Code.region id ops true).wp P (Post N D w0 G0 h0 ex st') a w:=by
  unfold cDraw at he
  split at he
  · rename_i hok
    obtain ⟨hmx, hok⟩:=hok
    simp only [evC, evD_bare] at he
    obtain ⟨fit, cover⟩:=okD_fit _ _ hok ⟨fun k d h=>by simp at h, fun p q c d _ h=>by simp at h, fun p q k b c d t _ _ h=>by simp at h⟩
    simp only [List.reverse_nil, List.nil_append] at fit cover
    obtain ⟨V, E, Hp, m, T⟩:=evD_trace _ _ _ _ _ he
    refine wp_region_any hmx ?_
    have hco:∀ (k:Nat) (d:DO) (o:Oper), (hs.map (cDO P H f N ops))[k]?=some d→ops[d.ix]?=some o→d.co=cOper P H f N ops o:=fun k d o hk ho=>by
      rw [List.getElem?_map] at hk
      cases hx:hs[k]? with
      | none=>rw [hx] at hk;cases hk
      | some x=>
        rw [hx] at hk
        simp only [Option.map_some, Option.some.injEq] at hk
        subst hk
        unfold cDO at ho ⊢
        cases hz:ops[x.1]? with
        | none=>rw [hz] at ho;simp only [hz] at ho;cases ho
        | some o'=>
          rw [hz] at ho
          simp only [hz, Option.some.injEq] at ho
          simp only [ho]
    have none_:∀ i, ¬ listedOf (Array.replicate ops.size false) i:=fun i h=>by
      unfold listedOf at h
      simp only [Array.getD_eq_getD_getElem?] at h
      rw [Array.getElem?_replicate] at h
      split at h<;>simp at h
    have s1:Sim { w with drawn:=w.drawn+1 } G (Hp 0):=by rw [T.h0];exact s.world (Nat.le_refl _) fun b _=>rfl
    have g1:Goes w G st.h { w with drawn:=w.drawn+1 } G st.h:=Goes.world s rfl rfl rfl (Nat.le_refl _) fun b _=>rfl
    refine draw_any fit hO hco T cover ops.size _ a _ G 0 (fun _=>0) ?_ (fun k d _ _ h=>absurd h (none_ _)) (by simp [List.count_replicate])
    refine { size := by simp, clo := fun j o _ h => absurd h (none_ j), lt := fun k d _ h => absurd h (none_ _), tm := hN, df := hd, le := Nat.zero_le m, sim := s1, goes := ?_, ne := by rw [T.h0]; exact hn,
             ld:=fun k d _ _ h=>absurd h (Nat.not_lt_zero k), al:=fun k d _ _ h=>absurd h (none_ _), pd:=fun k d t _ _ h=>absurd h (none_ _), pi:=fun k k' d d' _ _ h=>absurd h (none_ _), wr:=fun k d t _ _ h=>absurd h (none_ _), st:=fun t _=>?_ }
    · rw [T.h0];exact g.trans g1
    · rw [T.h0];exact (r t).along g1
  · simp [evC] at he
end Go.Ab
/-
  The evaluator is sound: code, loops, functions;the least evaluator that is its own step.
-/
namespace Go.Ab
open Go.RowKit
variable {P:Program}
def LoopW (P:Program) (c:Code) (Q:Exit→Act→World→Prop) (a:Act) (w:World):Prop:=
 ∀ (b:Frame) (k:List Item) (cs:List Frame),∃ e a' w',Q e a' w'∧Arrives P (lone (b.at a (.code c :: .inLoop c :: k)) cs w) b k cs e a' w'
theorem loopW_loop {c:Code} {Q:Exit→Act→World→Prop} {a:Act} {w:World} (h:LoopW P c Q a w):(Code.loop c).wp P Q a w:=fun b k cs=>by
 obtain ⟨e,a',w',hq,harr⟩:=h b k cs
 exact ⟨e,a',w',hq,.of_steps (.one step_loop) harr⟩
theorem loopW_step {c:Code} {Q:Exit→Act→World→Prop} {a:Act} {w:World} (h:c.wp P (Exit.then (LoopW P c Q) Q) a w):LoopW P c Q a w:=fun b k cs=>by
 obtain ⟨e,a₁,w₁,hq,harr⟩:=h b (.inLoop c :: k) cs
 cases e with
 | normal=>
  obtain ⟨e₂,a₂,w₂,hq₂,harr₂⟩:=hq b k cs
  exact ⟨e₂,a₂,w₂,hq₂,.of_steps (Steps.trans harr (.one step_inLoop)) harr₂⟩
 | exit id=>exact ⟨_,a₁,w₁,hq,.pass (x:=.inLoop c) rfl (fun _ _=>.inl (by simp)) harr⟩
 | goto l=>exact ⟨_,a₁,w₁,hq,.pass (x:=.inLoop c) rfl (fun _ _=>.inl (by simp)) harr⟩
 | ret=>exact ⟨_,a₁,w₁,hq,.pass (x:=.inLoop c) rfl (fun _ _=>.inl (by simp)) harr⟩
 | panic ch=>exact ⟨_,a₁,w₁,hq,.pass (x:=.inLoop c) rfl (fun _ _=>.inl (by simp)) harr⟩
 | outgrown=>exact ⟨_,a₁,w₁,hq,.pass (x:=.inLoop c) rfl (fun _ _=>.inl (by simp)) harr⟩
theorem BSim.drop {w:World} {G:Gm} {L L':Loc→Prop} {a:Loc} {B:Blk} {p:Loc→Bool} (h:BSim w G L a B) (hp:B.refOk p=true) (hL:∀ q,L q→p q=true→L' q):BSim w G L' a B:=by
 cases B with
 | box t fz v=>
  obtain ⟨b,c,h1,h2,h3,h4,h5,h6⟩:=h
  refine ⟨b,c,h1,h2,h3,h4,fun j hj=>⟨(h5 j hj).1,(h5 j hj).2.goes (ImmKept.refl w G) (p:=p) (cells_refOk hp (by omega)) fun q hq hpq=>⟨hL q hq hpq,Agree.refl G q⟩⟩,h6⟩
 | arr t sz vw es=>exact h
 | map es=>
  obtain ⟨b,en,ck,h1,h2,h3,h4,h5⟩:=h
  refine ⟨b,en,ck,h1,h2,h3,h4,fun i hi=>⟨(h5 i hi).1,(h5 i hi).2.goes (ImmKept.refl w G) (p:=p) ?_ fun q hq hpq=>⟨hL q hq hpq,Agree.refl G q⟩⟩⟩
  simp only [Blk.refOk,List.all_eq_true] at hp
  refine hp _ ?_
  rw [List.getD_eq_getElem?_getD,List.getElem?_eq_getElem hi]
  exact List.getElem_mem hi
 | dead=>exact h
 | arq t sz k ti si out es=>exact h
 | arv t sz es=>
  obtain ⟨h0,h⟩:=h
  refine ⟨h0,?_⟩
  rcases h with h | ⟨b,c,h1,h2,h3,h4,h5,h6,h7,h8⟩
  ·exact .inl h
  ·refine .inr ⟨b,c,h1,h2,h3,h4,h5,h6,fun i hi=>⟨(h7 i hi).1,fun j hj=>⟨((h7 i hi).2 j hj).1,((h7 i hi).2 j hj).2.goes (ImmKept.refl w G) (p:=p) ?_ fun q hq hpq=>⟨hL q hq hpq,Agree.refl G q⟩⟩⟩,h8⟩
   exact cells_refOk (refOks_get hp i hi) (by rw [(h7 i hi).1];exact hj)
theorem keep_get (live:List Nat) (e:Env) (t:Nat):get (keep live e) t=if t∈live then get e t else .top:=by
 unfold keep
 induction live with
 | nil=>simp [get]
 | cons x r ih=>
  simp only [List.map_cons,get,ih,List.mem_cons]
  by_cases c:x=t
  ·subst c;simp
  ·rw [if_neg c]
   by_cases c2:t∈r
   ·rw [if_pos c2,if_pos (.inr c2)]
   ·rw [if_neg c2,if_neg (by rintro (rfl | h)<;>simp_all)]
theorem EnvRel.keep_ {w:World} {G:Gm} {L:Loc→Prop} {e:Env} {a:Act} (r:EnvRel w G L e a) (live:List Nat):EnvRel w G L (keep live e) a:=fun t=>by
 rw [keep_get]
 split
 ·exact r t
 ·exact .top _ _
theorem dom_frame {f:List Blk} {o:Heap} {a:Loc}:dom (f :: o) a↔if a.1=o.length then a.2 < f.length else dom o a:=by
 unfold dom
 simp only [hget]
 split
 ·by_cases c:a.2 < f.length
  ·simp [c]
  ·simp [c,List.getElem?_eq_none (Nat.le_of_not_lt c)]
 ·rfl
theorem dom_level {h:Heap} {a:Loc} (hd:dom h a):a.1 < h.length:=by
 obtain ⟨B,hB⟩:=of_dom hd
 exact hget_lt hB
theorem dom_hlen {h:Heap} {a:Loc} (hd:dom h a) (hl:a.1+1=h.length):a.2 < hlen h:=by
 cases h with
 | nil=>simp at hl
 | cons f o=>
  rw [dom_frame,if_pos (by simpa using hl)] at hd
  exact hd
theorem cut_ok {n:Nat} {live:List Nat} {s s':St} (hc:cut n live s=some s') {w0:World} {G0:Gm} {h0:Heap} {w:World} {G:Gm} {a:Act} (g:Goes w0 G0 h0 w G s.h) (sm:Sim w G s.h) (r:EnvRel w G (dom s.h) s.env a)
  (hn:hlen h0≤n):Goes w0 G0 h0 w G s'.h∧Sim w G s'.h∧EnvRel w G (dom s'.h) s'.env a∧s'.h≠[]:=by
 unfold cut at hc
 split at hc
 ·cases hc
 ·rename_i f o hh
  split at hc
  ·injection hc with hc;subst hc
   exact ⟨g,sm,r.keep_ live,by simp [hh]⟩
  ·split at hc
   ·rename_i c
    obtain ⟨c1,c2,c3⟩:=c
    injection hc with hc;subst hc
    rw [hh] at g sm r
    have hdom:∀ q,dom (f.take n :: o) q↔dom (f :: o) q∧(!(q.1 == o.length) || decide (q.2 < n))=true:=fun q=>by
     rw [dom_frame,dom_frame]
     by_cases e:q.1=o.length
     ·simp [e,List.length_take];omega
     ·simp [e]
    refine ⟨⟨g.os,g.tape,g.output,g.size,g.heap,fun b hk=>g.img b (hk.imp (fun ⟨q,hq,e⟩=>⟨q,((hdom q).1 hq).1,e⟩) id),g.imm,fun q hq=>?_,g.depth,?_,g.nimm⟩,⟨fun q B hB=>?_,fun x y b hx hy=>sm.inj x y b ((hdom x).1 hx).1 ((hdom y).1 hy).1,sm.imm,fun b x hx=>⟨(sm.prv b x hx).1,fun q hq=>(sm.prv b x hx).2 q ((hdom q).1 hq).1⟩⟩,fun t=>?_,by simp⟩
    ·obtain ⟨k1,k2⟩:=g.loc q hq
     refine ⟨(hdom q).2 ⟨k1,?_⟩,k2⟩
     by_cases e:q.1=o.length
     ·have hd:=g.depth
      simp only [List.length_cons] at hd
      have:=dom_hlen hq (by omega)
      simp [e];omega
     ·simp [e]
    ·show hlen h0≤(f.take n).length
     rw [List.length_take];omega
    ·have hd:dom (f.take n :: o) q:=dom_of hB
     have hq:=(hdom q).1 hd
     have hB':hget (f :: o) q=some B:=by
      simp only [hget] at hB ⊢
      split
      ·rename_i e
       rw [if_pos e] at hB
       rw [List.getElem?_take] at hB
       split at hB
       ·exact hB
       ·cases hB
      ·rename_i e
       rw [if_neg e] at hB
       exact hB
     have h1:=sm.blk q B hB'
     by_cases e:q.1=o.length
     ·have hmem:B∈f.take n:=by
       simp only [hget,e,if_true] at hB
       exact List.mem_of_getElem? hB
      have hp:=List.all_eq_true.1 c3 B hmem
      exact h1.drop hp fun x hx hpx=>⟨hx.1,(hdom x).2 ⟨hx.2,hpx⟩⟩
     ·have hlt:=dom_level hq.1
      simp only [List.length_cons] at hlt
      have:∀ x,domTo (f :: o) q.1 x→domTo (f.take n :: o) q.1 x:=fun x hx=>⟨hx.1,(hdom x).2 ⟨hx.2,by have:=hx.1;simp;omega⟩⟩
      cases B with
      | box t fz v=>
       obtain ⟨b,c,h1,h2,h3,h4,h5,h6⟩:=h1
       exact ⟨b,c,h1,h2,h3,h4,fun j hj=>⟨(h5 j hj).1,(h5 j hj).2.wider this⟩,h6⟩
      | arr t sz vw es=>exact h1
      | map es=>
       obtain ⟨b,en,ck,h1,h2,h3,h4,h5⟩:=h1
       exact ⟨b,en,ck,h1,h2,h3,h4,fun i hi=>⟨(h5 i hi).1,(h5 i hi).2.wider this⟩⟩
      | dead=>exact h1
      | arq t sz k ti si out es=>exact h1
      | arv t sz es=>
       obtain ⟨h0,h⟩:=h1
       refine ⟨h0,?_⟩
       rcases h with h | ⟨b,c,h1,h2,h3,h4,h5,h6,h7,h8⟩
       ·exact .inl h
       ·exact .inr ⟨b,c,h1,h2,h3,h4,h5,h6,fun i hi=>⟨(h7 i hi).1,fun j hj=>⟨((h7 i hi).2 j hj).1,((h7 i hi).2 j hj).2.wider this⟩⟩,h8⟩
    ·have hr:=r.keep_ live t
     refine hr.goes (ImmKept.refl w G) (p:=fun a=>!(a.1 == o.length) || decide (a.2 < n)) ?_ fun q hq hpq=>⟨(hdom q).2 ⟨hq,hpq⟩,Agree.refl G q⟩
     unfold cutE at c2
     have key:∀ (e:Env),(e.all fun x=>x.2.refOk fun a=>!(a.1 == o.length) || decide (a.2 < n))=true→(get e t).refOk (fun a=>!(a.1 == o.length) || decide (a.2 < n))=true:=fun e=>by
      induction e with
      | nil=>intro _;simp [get,AV.refOk]
      | cons x e ih=>
       intro hall
       simp only [List.all_cons,Bool.and_eq_true] at hall
       obtain ⟨j,v⟩:=x
       simp only [get]
       split
       ·exact hall.1
       ·exact ih hall.2
     exact key _ c2
   ·injection hc with hc;subst hc
    exact ⟨g,sm,r.keep_ live,by simp [hh]⟩
def CodeSound (P:Program) (H:Hints) (O:Orc):Prop:=∀ (f:FuncId) (N:Nat) (D:List Deferred) (c:Code) (n:Nat) (live:List Nat) (st:St) (ex:Ex) (st':St),O.code (.loopAt n live (cCode P H f N c)) st=some (ex,st') →
 ∀ (w0:World) (G0:Gm) (h0:Heap) (w:World) (G:Gm) (a:Act),Goes w0 G0 h0 w G st.h→Sim w G st.h→st.h≠[]→EnvRel w G (dom st.h) st.env a→a.tmps.size=N→a.defers=D→hlen h0≤n →
  LoopW P c (Post N D w0 G0 h0 ex st') a w
theorem evC_ok {O:Orc} (hO:FnSound P O) {H:Hints} (hL:CodeSound P H O) {K:Cfg} {f:FuncId} {N:Nat} {D:List Deferred}:∀ (c:Code) (st:St) (ex:Ex) (st':St),evC K O (cCode P H f N c) st=some (ex,st') →
  ∀ (w0:World) (G0:Gm) (h0:Heap) (w:World) (G:Gm) (a:Act),Goes w0 G0 h0 w G st.h→Sim w G st.h→st.h≠[]→EnvRel w G (dom st.h) st.env a→a.tmps.size=N→a.defers=D→c.wp P (Post N D w0 G0 h0 ex st') a w
 | .skip,st,ex,st',he,w0,G0,h0,w,G,a,g,s,hn,r,hN,hd=>by
  simp only [cCode,evC,Option.some.injEq,Prod.mk.injEq] at he
  obtain ⟨rfl,rfl⟩:=he
  exact wp_skip ⟨G,s,g,r,hN,hd,rfl⟩
 | .label _,st,ex,st',he,w0,G0,h0,w,G,a,g,s,hn,r,hN,hd=>by
  simp only [cCode,evC,Option.some.injEq,Prod.mk.injEq] at he
  obtain ⟨rfl,rfl⟩:=he
  exact wp_label ⟨G,s,g,r,hN,hd,rfl⟩
 | .region id ops draw,st,ex,st',he,w0,G0,h0,w,G,a,g,s,hn,r,hN,hd=>by
  simp only [cCode] at he
  cases draw with
  | true=>
   simp only [if_true] at he
   exact draw_ok hO he g s hn r hN hd
  | false=>
   simp only [Bool.false_eq_true,if_false,evC] at he
   exact wp_region_list (evOps_ok hO _ _ _ _ he w0 G0 h0 w G a g s hn r hN hd)
 | .seq x y,st,ex,st',he,w0,G0,h0,w,G,a,g,s,hn,r,hN,hd=>by
  simp only [cCode,evC] at he
  have hx:=evC_ok hO hL (K:=K) (f:=f) (N:=N) (D:=D) x st
  refine wp_seq ?_
  split at he
  ·rename_i s1 h1
   refine wp_mono (hx _ _ h1 w0 G0 h0 w G a g s hn r hN hd) fun e a' w' p=>?_
   have hne:s1.h≠[]:=by
    obtain ⟨G',q1,q2,_⟩:=p
    intro e0
    have h1:=q2.depth;have h2:=g.depth
    rw [e0] at h1
    cases hs:st.h with
    | nil=>exact hn hs
    | cons q t=>rw [hs] at h2;simp at h1 h2;omega
   obtain ⟨G',q1,q2,q3,q4,q5,rfl⟩:=p
   exact evC_ok hO hL y s1 ex st' he w0 G0 h0 w' G' a' q2 q1 hne q3 q4 q5
  ·rename_i hnn
   refine wp_mono (hx ex st' he w0 G0 h0 w G a g s hn r hN hd) fun e a' w' p=>?_
   cases ex with
   | norm=>exact absurd he (hnn st')
   | exit id=>have p':=p;obtain ⟨G',q1,q2,q3,q4,q5,rfl⟩:=p;exact p'
   | ret=>have p':=p;obtain ⟨G',q1,q2,q3,q4,q5,rfl⟩:=p;exact p'
   | pan v=>have p':=p;obtain ⟨G',q1,q2,q3,q4,q5,x,rfl,_⟩:=p;exact p'
 | .cond x c1 c2,st,ex,st',he,w0,G0,h0,w,G,a,g,s,hn,r,hN,hd=>by
  simp only [cCode] at he
  split at he
  ·rename_i y hy
   simp only [evC] at he
   split at he
   ·rename_i t ht
    have hr:=opd_rel r hy
    rw [ht] at hr
    have hb:=bool_shape hr
    cases t with
    | true=>
     simp only [if_true] at he
     exact wp_cond_true hb (evC_ok hO hL c1 st ex st' he w0 G0 h0 w G a g s hn r hN hd)
    | false=>
     simp only [Bool.false_eq_true,if_false] at he
     exact wp_cond_false hb (evC_ok hO hL c2 st ex st' he w0 G0 h0 w G a g s hn r hN hd)
   ·cases he
  ·simp [evC] at he
 | .block id c,st,ex,st',he,w0,G0,h0,w,G,a,g,s,hn,r,hN,hd=>by
  simp only [cCode,evC] at he
  have hx:=evC_ok hO hL (K:=K) (f:=f) (N:=N) (D:=D) c st
  refine wp_block ?_
  split at he
  ·rename_i j s1 h1
   refine wp_mono (hx _ _ h1 w0 G0 h0 w G a g s hn r hN hd) fun e a' w' p=>?_
   obtain ⟨G',q1,q2,q3,q4,q5,rfl⟩:=p
   split at he
   ·rename_i hj
    simp only [Option.some.injEq,Prod.mk.injEq] at he
    obtain ⟨rfl,rfl⟩:=he
    simp only [Exit.inBlock,hj,if_true]
    exact ⟨G',q1,q2,q3,q4,q5,rfl⟩
   ·rename_i hj
    simp only [Option.some.injEq,Prod.mk.injEq] at he
    obtain ⟨rfl,rfl⟩:=he
    simp only [Exit.inBlock,hj,if_false]
    exact ⟨G',q1,q2,q3,q4,q5,rfl⟩
  ·rename_i hnn
   refine wp_mono (hx ex st' he w0 G0 h0 w G a g s hn r hN hd) fun e a' w' p=>?_
   cases ex with
   | exit j=>exact absurd he (hnn j st')
   | norm=>have p':=p;obtain ⟨G',q1,q2,q3,q4,q5,rfl⟩:=p;exact p'
   | ret=>have p':=p;obtain ⟨G',q1,q2,q3,q4,q5,rfl⟩:=p;exact p'
   | pan v=>have p':=p;obtain ⟨G',q1,q2,q3,q4,q5,x,rfl,_⟩:=p;exact p'
 | .loop c,st,ex,st',he,w0,G0,h0,w,G,a,g,s,hn,r,hN,hd=>by
  simp only [cCode,evC] at he
  exact loopW_loop (hL f N D c _ _ _ ex st' he w0 G0 h0 w G a g s hn (r.keep_ _) hN hd g.frame)
 | .exit id,st,ex,st',he,w0,G0,h0,w,G,a,g,s,hn,r,hN,hd=>by
  simp only [cCode,evC,Option.some.injEq,Prod.mk.injEq] at he
  obtain ⟨rfl,rfl⟩:=he
  exact wp_exit ⟨G,s,g,r,hN,hd,rfl⟩
 | .ret,st,ex,st',he,w0,G0,h0,w,G,a,g,s,hn,r,hN,hd=>by
  simp only [cCode,evC,Option.some.injEq,Prod.mk.injEq] at he
  obtain ⟨rfl,rfl⟩:=he
  exact wp_ret ⟨G,s,g,r,hN,hd,rfl⟩
 | .scope c,st,ex,st',he,w0,G0,h0,w,G,a,g,s,hn,r,hN,hd=>by
  simp only [cCode,evC] at he
  refine wp_scope_straight (wp_mono (evC_ok hO hL c st ex st' he w0 G0 h0 w G a g s hn r hN hd) fun e a' w' p=>?_)
  cases ex with
  | exit j=>have p':=p;obtain ⟨G',q1,q2,q3,q4,q5,rfl⟩:=p;exact p'
  | norm=>have p':=p;obtain ⟨G',q1,q2,q3,q4,q5,rfl⟩:=p;exact p'
  | ret=>have p':=p;obtain ⟨G',q1,q2,q3,q4,q5,rfl⟩:=p;exact p'
  | pan v=>have p':=p;obtain ⟨G',q1,q2,q3,q4,q5,x,rfl,_⟩:=p;exact p'
 | .rangeFunc _ _ _ _,st,ex,st',he,w0,G0,h0,w,G,a,g,s,hn,r,hN,hd=>by simp [cCode,evC] at he
 | .goto _,st,ex,st',he,w0,G0,h0,w,G,a,g,s,hn,r,hN,hd=>by simp [cCode,evC] at he
 | .refuse _,st,ex,st',he,w0,G0,h0,w,G,a,g,s,hn,r,hN,hd=>by simp [cCode,evC] at he
theorem codeSound_step {O:Orc} (hO:FnSound P O) {H:Hints} (hL:CodeSound P H O) (K:Cfg):CodeSound P H (step K O):=by
 intro f N D c n live st ex st' he w0 G0 h0 w G a g s hn r hN hd hle
 simp only [step,evC] at he
 have hx:=evC_ok hO hL (K:=K) (f:=f) (N:=N) (D:=D) c st
 refine loopW_step ?_
 split at he
 ·rename_i s1 h1
  split at he
  ·rename_i s2 hcut
   refine wp_mono (hx _ _ h1 w0 G0 h0 w G a g s hn r hN hd) fun e a' w' p=>?_
   obtain ⟨G',q1,q2,q3,q4,q5,rfl⟩:=p
   obtain ⟨k1,k2,k3,k4⟩:=cut_ok hcut q2 q1 q3 hle
   exact hL f N D c n live s2 ex st' he w0 G0 h0 w' G' a' k1 k2 k4 k3 q4 q5 hle
  ·cases he
 ·rename_i hnn
  refine wp_mono (hx ex st' he w0 G0 h0 w G a g s hn r hN hd) fun e a' w' p=>?_
  cases ex with
  | norm=>exact absurd he (hnn st')
  | exit j=>have p':=p;obtain ⟨G',q1,q2,q3,q4,q5,rfl⟩:=p;exact p'
  | ret=>have p':=p;obtain ⟨G',q1,q2,q3,q4,q5,rfl⟩:=p;exact p'
  | pan v=>have p':=p;obtain ⟨G',q1,q2,q3,q4,q5,x,rfl,_⟩:=p;exact p'
def resOne (tmps:Array Value):ResultVar→Sem Value
 | .tmp t=>pure (tmps.getD t undef)
 | .cell b t=>do loadVar t (← asAddr (tmps.getD b undef))
theorem run_cRes {w:World} {G:Gm} {h:Heap} {N:Nat} {e:Env} {a:Act} (s:Sim w G h) (r:EnvRel w G (dom h) e a):∀ {rs:List ResultVar} {cs:List CRes} {vs:List AV},cRes P N rs=some cs→evResL { env:=e,h:=h } cs=some vs →
  ∃ xs:List Value,(rs.mapM (resOne a.tmps)).run P w=.ok xs w∧xs.length=vs.length ∧
   ∀ i,i < vs.length→VRel w G (dom h) (vs.getD i .top) (xs.getD i undef)
 | [],cs,vs,hc,he=>by
  simp only [cRes,Option.some.injEq] at hc
  subst hc
  simp only [evResL,Option.some.injEq] at he
  subst he
  exact ⟨[],rfl,rfl,fun i hi=>by simp at hi⟩
 | .tmp t :: rs,cs,vs,hc,he=>by
  simp only [cRes] at hc
  split at hc
  ·rename_i cs' hcs
   injection hc with hc;subst hc
   simp only [evResL,evRes1] at he
   split at he
   ·rename_i vs' hvs
    injection he with he;subst he
    obtain ⟨xs,k1,k2,k3⟩:=run_cRes s r hcs hvs
    refine ⟨a.tmps.getD t undef :: xs,?_,by simp [k2],fun i hi=>?_⟩
    ·rw [List.mapM_cons]
     simp only [resOne,Sem.run_bind,Sem.run_pure,Result.andThen_ok,k1]
    ·cases i with
     | zero=>simpa using r t
     | succ i=>simpa using k3 i (by simpa using hi)
   ·cases he
  ·cases hc
 | .cell b t :: rs,cs,vs,hc,he=>by
  simp only [cRes] at hc
  split at hc
  ·rename_i ag sz cs' hsh hcs
   split at hc
   ·rename_i hsz
    injection hc with hc;subst hc
    simp only [evResL,evRes1] at he
    split at he
    ·rename_i v hv
     split at he
     ·rename_i vs' hvs
      injection he with he;subst he
      obtain ⟨xs,k1,k2,k3⟩:=run_cRes s r hcs hvs
      obtain ⟨y,l1,l2⟩:=loadFrom_ok (P:=P) s (r b) hsh hsz hv
      have hA:(do loadVar t (← asAddr (a.tmps.getD b undef)):Sem Value).run P w=.ok y w:=by
       unfold Instr.loadAt at l1
       generalize a.tmps.getD b undef=q at l1
       cases q with
       | pointer p=>
        cases p with
        | none=>simp [Instr.sureAddr] at l1
        | some p=>simpa [Instr.sureAddr,asAddr] using l1
       | _=>simp [Instr.sureAddr] at l1
      refine ⟨y :: xs,?_,by simp [k2],fun i hi=>?_⟩
      ·rw [List.mapM_cons,Sem.run_bind,show (resOne a.tmps (.cell b t)).run P w=.ok y w from hA]
       simp only [Result.andThen_ok,Sem.run_bind,k1,Sem.run_pure]
      ·cases i with
       | zero=>simpa using l2
       | succ i=>simpa using k3 i (by simpa using hi)
     ·cases he
    ·cases he
   ·cases hc
  ·cases hc
theorem run_results {fn:Func} {tmps:Array Value} {w:World} {xs:List Value} (h:(fn.results.toList.mapM (resOne tmps)).run P w=.ok xs w) :
  (results fn tmps).run P w=.ok (match xs with | [x]=>x | l=>.tuple l.toArray) w:=by
 have e:(fn.results.mapM (resOne tmps)).run P w=.ok xs.toArray w:=by
  rw [Array.mapM_eq_mapM_toList]
  simp [h]
 have e2:results fn tmps=(do let vs ← fn.results.mapM (resOne tmps);pure (if h:vs.size=1 then vs[0] else .tuple vs)):=by
  unfold results
  congr 1
 rw [e2,Sem.run_bind,e,Result.andThen_ok,Sem.run_pure]
 match xs with
 | []=>rfl
 | [x]=>rfl
 | x :: y :: l=>rfl
theorem evRes_ok {w:World} {G:Gm} {h:Heap} {N:Nat} {e:Env} {a:Act} (s:Sim w G h) (r:EnvRel w G (dom h) e a) {fn:Func} {cs:List CRes} {v:AV} (hc:cRes P N fn.results.toList=some cs) (he:evRes { env:=e,h:=h } cs=some v) :
  ∃ x,(results fn a.tmps).run P w=.ok x w∧VRel w G (dom h) v x:=by
 unfold evRes at he
 split at he
 ·rename_i u hu
  injection he with he;subst he
  obtain ⟨xs,k1,k2,k3⟩:=run_cRes s r hc hu
  match xs,k2 with
  | [x],_=>exact ⟨x,run_results k1,by simpa using k3 0 (by simp)⟩
 ·rename_i us hne hu
  injection he with he;subst he
  obtain ⟨xs,k1,k2,k3⟩:=run_cRes s r hc hu
  refine ⟨.tuple xs.toArray,?_,.tup _ _ _ (by simp [k2]) fun i hi=>by rw [toArray_getD];exact k3 i hi⟩
  rw [run_results k1]
  match xs,k2 with
  | [],_=>rfl
  | [x],k2=>
   match us,k2 with
   | [u],_=>exact absurd rfl (hne u)
  | x :: y :: l,_=>rfl
 ·cases he
theorem Sim.push {w:World} {G:Gm} {h:Heap} (s:Sim w G h):Sim w G ([] :: h):=by
 have hg:∀ a,hget ([] :: h) a=if a.1=h.length then none else hget h a:=fun a=>by simp [hget]
 have hd:∀ a,dom ([] :: h) a↔dom h a:=fun a=>by
  unfold dom
  rw [hg]
  split
  ·rename_i e
   simp only [Option.isSome_none,Bool.false_eq_true,false_iff]
   intro hh
   have:=dom_level (h:=h) (a:=a) hh
   omega
  ·rfl
 refine ⟨fun a B hB=>?_,fun x y b hx hy=>s.inj x y b ((hd x).1 hx) ((hd y).1 hy),s.imm,fun b x hx=>⟨(s.prv b x hx).1,fun q hq=>(s.prv b x hx).2 q ((hd q).1 hq)⟩⟩
 rw [hg] at hB
 split at hB
 ·cases hB
 ·exact (s.blk a B hB).kept (ImmKept.refl w G) (fun q hq=>⟨⟨hq.1,(hd q).2 hq.2⟩,Agree.refl G q⟩) ⟨rfl,rfl,rfl⟩ (fun _ _=>rfl) (fun _ _ _ hi=>hi) fun _ _ ht=>⟨ht,rfl,fun _ ho=>ho⟩
theorem dom_push {h:Heap} (a:Loc):dom ([] :: h) a↔dom h a:=by
 unfold dom
 simp only [hget]
 split
 ·rename_i e
  simp only [List.getElem?_nil,Option.isSome_none,Bool.false_eq_true,false_iff]
  intro hh
  have:=dom_level (h:=h) (a:=a) hh
  omega
 ·rfl
theorem merge_ok {w0:World} {G0:Gm} {h0:Heap} {w:World} {G:Gm} {f:List Blk} {o:Heap} (s:Sim w G (f :: o)) (g:Goes w0 G0 ([] :: h0) w G (f :: o)) {v v':AV} {h':Heap} {x:Value} (hv:VRel w G (dom (f :: o)) v x)
  (hp:merge v f o=some (v',h')):∃ G',Sim w G' h'∧Goes w0 G0 h0 w G' h'∧VRel w G' (dom h') v' x:=by
 cases o with
 | nil=>cases hp
 | cons gf o=>
  simp only [merge,Option.some.injEq,Prod.mk.injEq] at hp
  obtain ⟨rfl,rfl⟩:=hp
  have hdep:=g.depth
  simp only [List.length_cons] at hdep
  generalize hr:moved o.length gf.length=r
  have r_eq:∀ a,r a=if a.1=o.length+1 then (o.length,gf.length+a.2) else a:=fun a=>by rw [←hr];rfl
  let back:Loc→Loc:=fun a=>if a.1=o.length∧gf.length≤a.2 then (o.length+1,a.2 - gf.length) else a
  let G2:Gm:={ blk:=fun a=>G.blk (back a),len:=fun a=>G.len (back a),cap:=fun a=>G.cap (back a),imm:=G.imm,tl:=fun b=>(G.tl b).map fun x=>(r x.1,x.2) }
  have hg2:∀ a,hget ((gf++f.map (Blk.ren r)) :: o) a=if a.1=o.length∧gf.length≤a.2 then (f[a.2 - gf.length]?).map (Blk.ren r) else hget (gf :: o) a:=fun a=>by
   simp only [hget]
   by_cases h1:a.1=o.length
   ·simp only [h1,if_true,true_and]
    by_cases h2:gf.length≤a.2
    ·rw [if_pos h2,List.getElem?_append_right h2,List.getElem?_map]
    ·rw [if_neg h2,List.getElem?_append_left (by omega)]
   ·simp [h1]
  have lvl:∀ {a},dom (f :: gf :: o) a→a.1≤o.length+1:=fun h=>by have:=dom_level h;simp only [List.length_cons] at this;omega
  have old:∀ a,hget (f :: gf :: o) a=if a.1=o.length+1 then f[a.2]? else hget (gf :: o) a:=fun a=>by
   rw [hget];simp only [List.length_cons]
  have fwd:∀ q,dom (f :: gf :: o) q→dom ((gf++f.map (Blk.ren r)) :: o) (r q)∧back (r q)=q:=fun q hq=>by
   have hl:=lvl hq
   unfold dom at hq ⊢
   rw [old] at hq
   rw [hg2,r_eq]
   by_cases h1:q.1=o.length+1
   ·rw [if_pos h1] at hq ⊢
    obtain ⟨q1,q2⟩:=q
    simp only at h1
    subst h1
    refine ⟨by simpa using hq,?_⟩
    simp [back]
   ·rw [if_neg h1] at hq ⊢
    have h2:¬ (q.1=o.length∧gf.length≤q.2):=fun ⟨e1,e2⟩=>by
     rw [hget,if_pos e1,List.getElem?_eq_none e2] at hq
     cases hq
    rw [if_neg h2]
    refine ⟨hq,?_⟩
    simp [back,h2]
  have bwd:∀ a,dom ((gf++f.map (Blk.ren r)) :: o) a→dom (f :: gf :: o) (back a)∧r (back a)=a:=fun a ha=>by
   unfold dom at ha ⊢
   rw [hg2] at ha
   rw [old,r_eq]
   by_cases h1:a.1=o.length∧gf.length≤a.2
   ·rw [if_pos h1] at ha
    have hb:back a=(o.length+1,a.2 - gf.length):=by simp [back,h1]
    rw [hb]
    refine ⟨by simpa using ha,?_⟩
    obtain ⟨a1,a2⟩:=a
    simp only at h1
    simp [h1.1];omega
   ·rw [if_neg h1] at ha
    have hb:back a=a:=by simp [back,h1]
    rw [hb]
    have h2:¬ a.1=o.length+1:=fun e=>by
     have:dom (gf :: o) a:=ha
     have:=dom_level this
     simp only [List.length_cons] at this
     omega
    rw [if_neg h2,if_neg h2]
    exact ⟨ha,rfl⟩
  have agr:∀ q,dom (f :: gf :: o) q→G2.blk (r q)=G.blk q∧G2.len (r q)=G.len q∧G2.cap (r q)=G.cap q:=fun q hq=>by
   have:=(fwd q hq).2
   exact ⟨by show G.blk _=_;rw [this],by show G.len _=_;rw [this],by show G.cap _=_;rw [this]⟩
  have hI:∀ b o,G2.imm b o↔G.imm b o:=fun _ _=>Iff.rfl
  have htl:∀ b,G2.tl b≠none→G.tl b≠none:=fun b hb e=>hb (by show (G.tl b).map _=none;rw [e];rfl)
  have hpu:∀ b,Held G0 ([] :: h0) b→Held G0 h0 b:=fun b hk=>hk.imp (fun ⟨q,hq,e⟩=>⟨q,(dom_push q).1 hq,e⟩) id
  refine ⟨G2,⟨fun a B hB=>?_,fun x y b hx hy ex ey=>?_,s.imm,fun b x hx=>?_⟩,⟨g.os,g.tape,g.output,g.size,fun b hb hn=>g.heap b hb fun hk=>hn (hpu b hk),fun b hk hb=>?_,g.imm,fun q hq=>?_,by simp only [List.length_cons];omega,?_,
   fun b o hb hn=>g.nimm b o hb fun hk=>hn (hpu b hk)⟩,?_⟩
  rotate_left 2
  ·have h1:G.tl b≠none:=htl b (by rw [hx];simp)
   cases hy:G.tl b with
   | none=>exact absurd hy h1
   | some y=>
    obtain ⟨k1,k2⟩:=s.prv b y hy
    exact ⟨k1,fun q hq e=>k2 (back q) (bwd q hq).1 e⟩
  rotate_right 2
  ·
   rw [hg2] at hB
   by_cases h1:a.1=o.length∧gf.length≤a.2
   ·rw [if_pos h1,Option.map_eq_some_iff] at hB
    obtain ⟨B0,hB0,rfl⟩:=hB
    have hb:back a=(o.length+1,a.2 - gf.length):=by simp [back,h1]
    have h2:hget (f :: gf :: o) (o.length+1,a.2 - gf.length)=some B0:=by rw [old];simpa using hB0
    have hd:=dom_of h2
    have h3:=s.blk _ B0 h2
    refine h3.ren_ (r:=r) hI (fun q hq=>⟨⟨?_,(fwd q hq.2).1⟩,agr q hq.2⟩) ⟨by show G.blk _=_;rw [hb],by show G.len _=_;rw [hb],by show G.cap _=_;rw [hb]⟩ fun b' i ht=>by
     show (G.tl b').map _=_
     rw [ht]
     have e1:r (o.length+1,a.2 - gf.length)=a:=by rw [←hb];exact (bwd a (dom_of (B:=B0.ren r) (by rw [hg2,if_pos h1,hB0];rfl))).2
     simp only [Option.map_some,e1]
    have:=lvl hq.2
    rw [r_eq]
    split
    ·simp only;omega
    ·rename_i hne;omega
   ·rw [if_neg h1] at hB
    have hb:back a=a:=by simp [back,h1]
    have ha1:a.1≤o.length:=by have:=dom_level (dom_of hB);simp only [List.length_cons] at this;omega
    have h2:hget (f :: gf :: o) a=some B:=by rw [old,if_neg (by omega)];exact hB
    refine (s.blk a B h2).kept (ImmKept.refl w G) (fun q hq=>?_) ⟨by show G.blk _=_;rw [hb],by show G.len _=_;rw [hb],by show G.cap _=_;rw [hb]⟩ (fun _ _=>rfl) (fun _ _ _ hi=>hi) fun b' i ht=>⟨by
     show (G.tl b').map _=_
     rw [ht]
     have e1:r a=a:=by rw [r_eq,if_neg (by omega)]
     simp only [Option.map_some,e1],rfl,fun _ ho=>ho⟩
    have hq1:q.1≤a.1:=hq.1
    have e1:r q=q:=by rw [r_eq,if_neg (by omega)]
    obtain ⟨k1,k2⟩:=fwd q hq.2
    rw [e1] at k1 k2
    have k3:=agr q hq.2
    rw [e1] at k3
    exact ⟨⟨hq1,k1⟩,.inl k3⟩
  ·have hx':=bwd x hx
   have hy':=bwd y hy
   have:=s.inj _ _ b hx'.1 hy'.1 ex ey
   rw [←hx'.2,←hy'.2,this]
  ·refine hpu b (g.img b ?_ hb)
   rcases hk with ⟨a,ha,e⟩ | hk
   ·exact .of (bwd a ha).1 e
   ·exact .inr (htl b hk)
  ·obtain ⟨e0,e1⟩:=g.loc q ((dom_push q).2 hq)
   have hl:=dom_level hq
   have er:r q=q:=by rw [r_eq,if_neg (by omega)]
   obtain ⟨k1,k2⟩:=fwd q e0
   rw [er] at k1 k2
   have k3:=agr q e0
   rw [er] at k3
   exact ⟨k1,e1.trans (.inl k3)⟩
  ·cases h0 with
   | nil=>simp [hlen]
   | cons f0 o0=>
    show f0.length≤(gf++f.map (Blk.ren r)).length
    cases hf:f0.length with
    | zero=>omega
    | succ m=>
     have hq:dom (f0 :: o0) (o0.length,m):=by rw [dom_frame];simp [hf]
     have:=(g.loc (o0.length,m) ((dom_push _).2 hq)).1
     simp only [List.length_cons] at hdep
     unfold dom at this
     rw [old,if_neg (by simp only;omega),hget,if_pos (by simp only;omega)] at this
     have hlt:m < gf.length:=by
      rcases Nat.lt_or_ge m gf.length with h | h
      ·exact h
      ·rw [List.getElem?_eq_none h] at this;cases this
     simp only [List.length_append]
     omega
  ·exact hv.ren_ (fun b o=>(hI b o).2) fun q hq=>⟨(fwd q hq).1,agr q hq⟩
theorem pop_ok {w0:World} {G0:Gm} {h0:Heap} {w:World} {G:Gm} {h:Heap} (s:Sim w G h) (g:Goes w0 G0 ([] :: h0) w G h) {v v':AV} {h':Heap} {x:Value} (hv:VRel w G (dom h) v x) (hp:pop v h=some (v',h')) :
  ∃ G',Sim w G' h'∧Goes w0 G0 h0 w G' h'∧VRel w G' (dom h') v' x:=by
 unfold pop at hp
 split at hp
 ·rename_i u f o hvw
  split at hp
  ·rename_i href
   simp only [Option.some.injEq,Prod.mk.injEq] at hp
   obtain ⟨rfl,rfl⟩:=hp
   obtain ⟨G',k1,k2,k3⟩:=view_ok _ s hv hvw
   have g':=g.trans k2
   have hd:∀ q,dom o q↔dom (f :: o) q∧q.1 < o.length:=fun q=>by
    rw [dom_frame]
    constructor
    ·intro h
     have:=dom_level h
     rw [if_neg (by omega)]
     exact ⟨h,this⟩
    ·rintro ⟨h,hl⟩
     rwa [if_neg (by omega)] at h
   have hdep:=g'.depth
   simp only [List.length_cons] at hdep
   have hpu:∀ b,Held G0 ([] :: h0) b→Held G0 h0 b:=fun b hk=>hk.imp (fun ⟨q,hq,e⟩=>⟨q,(dom_push q).1 hq,e⟩) id
   refine ⟨G',⟨fun q B hB=>?_,fun x y b hx hy=>k1.inj x y b ((hd x).1 hx).1 ((hd y).1 hy).1,k1.imm,fun b x hx=>⟨(k1.prv b x hx).1,fun q hq=>(k1.prv b x hx).2 q ((hd q).1 hq).1⟩⟩,⟨g'.os,g'.tape,g'.output,g'.size,fun b hb hn=>g'.heap b hb fun hk=>hn (hpu b hk),
    fun b hk hb=>?_,g'.imm,fun q hq=>?_,by omega,?_,fun b o hb hn=>g'.nimm b o hb fun hk=>hn (hpu b hk)⟩,?_⟩
   ·have hq:dom o q:=dom_of hB
    have hB':hget (f :: o) q=some B:=by
     have:=dom_level hq
     simp only [hget]
     rw [if_neg (by omega)]
     exact hB
    exact (k1.blk q B hB').kept (ImmKept.refl w G') (fun y hy=>⟨⟨hy.1,(hd y).2 ⟨hy.2,by have:=hy.1;have:=dom_level hq;omega⟩⟩,Agree.refl G' y⟩) ⟨rfl,rfl,rfl⟩ (fun _ _=>rfl) (fun _ _ _ hi=>hi) fun _ _ ht=>⟨ht,rfl,fun _ ho=>ho⟩
   ·exact hpu b (g'.img b (hk.imp (fun ⟨q,hq,e⟩=>⟨q,((hd q).1 hq).1,e⟩) id) hb)
   ·obtain ⟨e0,e1⟩:=g'.loc q ((dom_push q).2 hq)
    refine ⟨(hd q).2 ⟨e0,?_⟩,e1⟩
    have:=dom_level hq
    omega
   ·
    cases h0 with
    | nil=>simp [hlen]
    | cons f0 o0=>
     cases o with
     | nil=>simp at hdep
     | cons f1 o1=>
      show f0.length≤f1.length
      cases hf:f0.length with
      | zero=>omega
      | succ m=>
       have hq:dom (f0 :: o0) (o0.length,m):=by rw [dom_frame];simp [hf]
       have:=(g'.loc (o0.length,m) ((dom_push _).2 hq)).1
       have hq2:=(hd (o0.length,m)).2 ⟨this,by simp only [List.length_cons] at hdep ⊢;omega⟩
       rw [dom_frame] at hq2
       simp only [List.length_cons] at hdep
       rw [if_pos (by omega)] at hq2
       exact hq2
   ·exact k3.goes (ImmKept.refl w G') href fun q hq hpq=>⟨(hd q).2 ⟨hq,by simpa using hpq⟩,Agree.refl G' q⟩
  ·obtain ⟨G',k1,k2,k3⟩:=view_ok _ s hv hvw
   exact merge_ok k1 (g.trans k2) k3 hp
 ·cases hp
theorem popK_ok {w0:World} {G0:Gm} {h0:Heap} {w:World} {G:Gm} {h:Heap} (s:Sim w G h) (g:Goes w0 G0 ([] :: h0) w G h) {k:Bool} {v v':AV} {h':Heap} {x:Value} (hv:VRel w G (dom h) v x) (hp:popK k v h=some (v',h')) :
  ∃ G',Sim w G' h'∧Goes w0 G0 h0 w G' h'∧VRel w G' (dom h') v' x:=by
 unfold popK at hp
 split at hp
 ·split at hp
  ·exact merge_ok s g hv hp
  ·cases hp
 ·exact pop_ok s g hv hp
theorem evRes1_keep (s:St) (r:CRes):evRes1 s r.keep=evRes1 s r:=by cases r<;>rfl
theorem evResL_keep (s:St):∀ rs:List CRes,evResL s (rs.map CRes.keep)=evResL s rs
 | []=>rfl
 | r :: rs=>by simp only [List.map_cons,evResL,evRes1_keep,evResL_keep s rs]
theorem evRes_kept (s:St) (k:Bool) (rs:List CRes):evRes s (keptR k rs)=evRes s rs:=by
 unfold keptR
 split
 ·unfold evRes
  rw [evResL_keep]
 ·rfl
theorem get_envOf:∀ (args:List AV) (k t:Nat),get (envOf k args) t=if k≤t then args.getD (t - k) .top else .top
 | [],k,t=>by simp [envOf,get]
 | a :: r,k,t=>by
  simp only [envOf,get]
  by_cases c:k=t
  ·subst c;simp
  ·rw [if_neg c,get_envOf r (k+1) t]
   by_cases c2:k≤t
   ·rw [if_pos (by omega),if_pos c2]
    obtain ⟨d,rfl⟩:∃ d,t=k+1+d:=⟨t - (k+1),by omega⟩
    rw [show k+1+d - (k+1)=d by omega,show k+1+d - k=d+1 by omega]
    rfl
   ·rw [if_neg (by omega),if_neg c2]
end Go.Ab
