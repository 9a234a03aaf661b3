/-
  Owned slices whose elements may lead to places; a box in which one cell's slice is not written any more.
-/
import Derived.Test.YtjnomgdildcbhaaGreatDoorAbUns
import Derived.MapKept
import Derived.WideKeyRuns
import Derived.WideLaws
set_option linter.unusedVariables false
set_option linter.unusedSimpArgs false
namespace Go.Ab
open Go.RowKit
variable {P:Program} {w:World} {G:Gm} {h:Heap}
theorem B6 {L:Loc->Prop} {a:Loc} {B:Blk} {t:TypeId} {sz:Nat} {es:List AV} (hB:qd w G L a B) (he:asV (some B)=some (t,sz,es)):Qz w G L a t sz es:=by
 cases B with
 | arv t' sz' es'=>
  simp only [asV,Option.some.injEq,Prod.mk.injEq] at he
  obtain ⟨rfl,rfl,rfl⟩:=he
  exact hB
 | arr t' sz' vw es'=>
  cases vw with
  | true=>cases he
  | false=>
   simp only [asV,Option.some.injEq,Prod.mk.injEq] at he
   obtain ⟨rfl,rfl,rfl⟩:=he
   obtain ⟨h0,hd⟩:=hB
   refine ⟨h0,?_⟩
   rcases hd with h1 | ⟨b,c,h1,h2,h3,h4,h5,h6,h7,h8⟩
   ·exact .inl h1
   ·exact .inr ⟨b,c,h1,h2,h3,h4,h5,h6,fun i hi=>⟨(h7 i hi).1,fun j hj=>⟨((h7 i hi).2 j hj).1,((h7 i hi).2 j hj).2.wider fun _ e=>e.elim⟩⟩,fun o ho=>by have:=(h8 o ho).1;cases this⟩
 | _=>cases he
theorem GF {a:Loc} {t:TypeId} {sz:Nat} {es:List AV} (he:asV (hget h a)=some (t,sz,es)):∃ B,hget h a=some B∧asV (some B)=some (t,sz,es):=by
 cases hb:hget h a with
 | none=>rw [hb] at he;cases he
 | some B=>rw [hb] at he;exact ⟨B,rfl,he⟩
theorem DI (s:Sim w G h) {p v:AV} {px vx:Value} (hp:az w G (dom h) p px) (hv:az w G (dom h) v vx) (hpos:0 < v.cells.length) {t:TypeId} {ag:Bool}
  (hsh:shapeOf P t=some (ag,v.cells.length)) {h':Heap} (hst:rA h p v=some h') :
  ∃ w',(Instr.storeAt t px vx).run P w=.ok () w'∧Sim w' G h'∧Goes w G h w' G h':=by
 have hvc:=hv.cM hpos
 have hvl:vx.cells.toList.length=v.cells.length:=by rw [Array.length_toList];exact hvc.1
 unfold rA at hst
 split at hst
 case h_2=>cases hst
 rename_i a n sz i o
 split at hst
 case h_2=>cases hst
 rename_i tb s' es hb0
 obtain ⟨B0,hb,hbv⟩:=GF hb0
 split at hst
 case isFalse=>cases hst
 rename_i c0
 obtain ⟨hn,rfl,KJ⟩:=c0
 split at hst
 case h_2=>cases hst
 rename_i u hu
 split at hst
 case h_2=>cases hst
 rename_i u' hu'
 injection hst with hst;subst hst
 obtain ⟨hcells,hfit⟩:=lS hu' hpos
 cases hp with
 | cw _ a n sz i o m b hLa hm hle hbk=>
  obtain ⟨h0,hd⟩:=B6 (s.blk a _ hb) hbv
  have hmn:m=n:=by rw [hm] at h0;injection h0 with h0;omega
  have hbk:=hbk hmn
  have hlt:=(List.getElem?_eq_some_iff.1 hu).1
  have hgd:es.getD i .top=u:=by simp [List.getD_eq_getElem?_getD,hu]
  rcases hd with ⟨h1,h2⟩ | ⟨b',c,h1,h2,h3,h4,h5,h6,h7,h8⟩
  ·rw [hbk] at h1;cases h1
  ·rw [hbk] at h1
   injection h1 with h1;subst h1
   have hul:u.cells.length=sz:=by have:=(h7 i hlt).1;rwa [hgd] at this
   have hcap:i * sz+sz<=c.size:=by
    rw [h3]
    have:(i+1) * sz<=G.cap a * sz:=Nat.mul_le_mul_right _ (by omega)
    rwa [Nat.add_mul,Nat.one_mul] at this
   have hrun:=fE (P:=P) (k:=i * sz+o) hvc h2 (by omega) hsh rfl
   have hw:∀ k,k≠b->(w.setRow b (c.toList.take (i * sz+o)++vx.cells.toList++c.toList.drop (i * sz+o+v.cells.length)).toArray).heap[k]?=w.heap[k]?:=fun k hk=>setRow_other w b k _ hk
   have hI:aM w G (w.setRow b (c.toList.take (i * sz+o)++vx.cells.toList++c.toList.drop (i * sz+o+v.cells.length)).toArray) G:=fun k q hi=>by
    refine ⟨hi,World.cell?_of_block (hw k fun e=>?_)⟩
    subst e
    exact h8 q hi
   have hA:∀ a,Agree G G a:=Agree.refl G
   refine ⟨_,by simpa [Instr.storeAt,Instr.sureAddr] using hrun,s.update hLa (by simp) (fun k _ hk=>hw k fun e=>hk (by rw [e];exact hbk)) (fun _ _=>⟨rfl,rfl,rfl⟩) (hA a) hI (fun _ _ hi=>.inl hi) (fun _ hk=>.inl hk) ?_,
    Goes.update hLa rfl rfl rfl (by simp) (fun k _ hk=>hw k fun e=>hk (by rw [e];exact hbk)) (fun _ _=>⟨rfl,rfl,rfl⟩) (hA a) hI (fun _ hk=>.inl hk) (fun _ _ hk=>.inl hk)⟩
   refine ⟨by rw [List.length_set];exact h0,.inr ⟨b,_,hbk,lT h2 _,?_,h4,by rw [List.length_set];exact h5,h6,fun i' hi'=>?_,fun q hq=>h8 q hq⟩⟩
   ·simp only [List.size_toArray]
    rw [dN _ _ _ _ hvl (by have:=Array.length_toList (xs:=c);omega),Array.length_toList (xs:=c)]
    exact h3
   ·rw [List.length_set] at hi'
    have hg':(es.set i u').getD i' .top=if i=i' then u' else es.getD i' .top:=by
     simp only [List.getD_eq_getElem?_getD,List.getElem?_set]
     by_cases e:i=i'
     ·simp [e,hi']
     ·simp [e]
    have QA:u'.cells.length=sz:=by rw [hcells,dN _ _ _ _ rfl hfit,hul]
    refine ⟨?_,fun j hj=>?_⟩
    ·rw [hg']
     split
     ·exact QA
     ·exact (h7 i' hi').1
    ·rw [gD,eO _ _ _ _ _ _ hvl (by have:=Array.length_toList (xs:=c);omega),hg']
     by_cases e:i=i'
     ·subst e
      rw [if_pos rfl,hcells,eO _ _ _ _ _ _ rfl hfit]
      by_cases cc:o<=j∧j < o+v.cells.length
      ·rw [if_pos cc,if_pos (by omega),getD_toList]
       obtain ⟨k1,k2⟩:=hvc.2 (j - o) (by omega)
       rw [show i * sz+j - (i * sz+o)=j - o by omega]
       refine ⟨k1,k2.goes hI (p:=fun q=>decide (q.1<=a.1)) ?_ fun q hq hpq=>⟨⟨by simpa using hpq,(aY h a q _).2 hq⟩,hA q⟩⟩
       exact iE KJ (by omega)
      ·rw [if_neg cc,if_neg (by omega),getD_toList]
       obtain ⟨k1,k2⟩:=(h7 i hi').2 j hj
       rw [hgd] at k2
       exact ⟨k1,k2.mono hI fun q hq=>⟨⟨hq.1,(aY h a q _).2 hq.2⟩,hA q⟩⟩
     ·rw [if_neg e]
      have hout:¬ (i * sz+o<=i' * sz+j∧i' * sz+j < i * sz+o+v.cells.length):=by
       rintro ⟨q1,q2⟩
       rcases Nat.lt_or_gt_of_ne e with q | q
       ·have:(i+1) * sz<=i' * sz:=Nat.mul_le_mul_right _ q
        rw [Nat.add_mul,Nat.one_mul] at this
        omega
       ·have:(i'+1) * sz<=i * sz:=Nat.mul_le_mul_right _ q
        rw [Nat.add_mul,Nat.one_mul] at this
        omega
      rw [if_neg hout,getD_toList]
      obtain ⟨k1,k2⟩:=(h7 i' hi').2 j hj
      exact ⟨k1,k2.mono hI fun q hq=>⟨⟨hq.1,(aY h a q _).2 hq.2⟩,hA q⟩⟩
theorem Vq (s:Sim w G h) (hn:h≠[]) {e:Env} {a:Act} (he:aB w G (dom h) e a) {o:Oper} {t:TypeId} {A X:Operand} {A' X':Opd} {ag:Bool} {sz:Nat} (ho:o.op=.store t A X)
  (hA:aI A=some A') (hX:aI X=some X') (hsh:shapeOf P t=some (ag,sz)) (hsz:0 < sz) {K:Cfg} {O:Orc} {v:AV} {h':Heap}
  (hev:evM K O (.stV sz A' X') e h=some (.val v h')):bM P w G h a o v h':=by
 have hrX:=aC he hX
 have hrA:=aC he hA
 simp only [evM] at hev
 split at hev
 ·rename_i hl
  split at hev
  ·rename_i h2 hst
   injection hev with hev
   injection hev with e1 e2
   subst e1;subst e2
   obtain ⟨w',l1,l2,l3⟩:=DI (P:=P) (t:=t) (ag:=ag) s hrA hrX (by omega) (by rw [hl];exact hsh) hst
   exact ⟨.skip,undef,w',G,by simp [execOp,ho,l1],.inr ⟨rfl,rfl⟩,l2,l3,.tup _ _ _ rfl fun i hi=>by simp at hi⟩
  ·cases hev
 ·cases hev
theorem GG {a:Act} {o:Oper} {r:Option Out} (hr:∀ v h',r=some (.val v h')->bM P w G h a o v h') {v:AV} {h':Heap} (hev:toV r=some (.val v h')):bM P w G h a o v h':=by
 unfold toV at hev
 split at hev
 case h_2=>cases hev
 rename_i la n h1
 split at hev
 case h_2=>cases hev
 rename_i t sz es hb
 split at hev
 case isFalse=>cases hev
 rename_i cc
 injection hev with hev
 injection hev with e1 e2
 subst e1;subst e2
 obtain ⟨nx,x,w',G',k1,k2,k3,k4,k5⟩:=hr _ _ rfl
 have hda:=fq hb
 have hg:=Goes.update (w:=w') (w':=w') (G:=G') (G':=G') (B:=.arv t sz es) hda rfl rfl rfl (Nat.le_refl _) (fun _ _ _=>rfl) (fun _ _=>⟨rfl,rfl,rfl⟩) (Agree.refl G' la) (aM.refl w' G') (fun _ hk=>.inl hk) (fun _ _ hk=>.inl hk)
 have hV:=B6 (k3.blk la _ hb) rfl
 refine ⟨nx,x,w',G',k1,k2,k3.update hda (Nat.le_refl _) (fun _ _ _=>rfl) (fun _ _=>⟨rfl,rfl,rfl⟩) (Agree.refl G' la) (aM.refl w' G') (fun _ _ hk=>.inl hk) (fun _ hk=>.inl hk) ?_,k4.trans hg,k5.along hg⟩
 exact qd.kept (B:=.arv t sz es) hV (aM.refl w' G') (fun q hq=>⟨⟨hq.1,(aY _ _ _ _).2 hq.2⟩,Agree.refl G' q⟩) ⟨rfl,rfl,rfl⟩ (fun _ _=>rfl) (fun _ _ _ hi=>hi) fun _ _ hx=>⟨hx,rfl,fun _ hi=>hi⟩
theorem Qm (s:Sim w G h) (hn:h≠[]) {e:Env} {a:Act} (he:aB w G (dom h) e a) {o:Oper} {t el:TypeId} {i:TypeInfo} {z:AV} {l c:Operand} {l' c':Opd} (ho:o.op=.makeSlice t l c)
  (hu:P.underlying t=some (.slice el)) (hi:P.info? el=some i) (hz:zeroOf P el=some z) (hsz:0 < i.size) (hl:aI l=some l') (hc:aI c=some c')
  {K:Cfg} {O:Orc} {v:AV} {h':Heap} (hev:evM K O (.Qg el i.size i.bytes z l' c') e h=some (.val v h')):bM P w G h a o v h':=by
 simp only [evM] at hev
 split at hev
 ·rename_i kl n kc m hL hC
  split at hev
  ·rename_i cc
   refine GG (fun v h1 h2=>?_) hev
   refine Kz s hn he ho hu hi hz hsz hl hc (K:=K) (O:=O) ?_
   simp only [evM,hL,hC,if_pos cc]
   exact h2
  ·cases hev
 ·cases hev
theorem Qq (s:Sim w G h) (hn:h≠[]) {e:Env} {a:Act} (he:aB w G (dom h) e a) {o:Oper} {c:Call} {t el:TypeId} {i:TypeInfo} {z:AV} {S X:Operand} {S' X':Opd}
  (ho:o.op=.call c) (hc:c.callee=.builtin .append) (hargs:c.args.toList=[S,X]) (hS:aI S=some S') (hX:aI X=some X') (ht0:c.argTypes[0]?=some t) (ht1:c.argTypes[1]?=some t)
  (hu:P.underlying t=some (.slice el)) (hi:P.info? el=some i) (hz:zeroOf P el=some z) (hsz:0 < i.size)
  {K:Cfg} {O:Orc} {v:AV} {h':Heap} (hev:evM K O (.L4 el i.size i.bytes S' X') e h=some (.val v h')):bM P w G h a o v h':=by
 have hrX:=aC he hX
 have hrS:=aC he hS
 obtain ⟨i',zv,hi',hzv,hzz,hzl⟩:=bR hz
 rw [hi] at hi'
 injection hi' with hi';subst hi'
 have hzr:az w G (dom h) z zv:=by rw [hzz];exact dB zv
 have hzs:zv.cells.size=i.size:=by rw [(hzr.cM (by omega)).1,hzl]
 simp only [evM] at hev
 cases hel:cD (X'.ev e) h with
 | none=>simp [hel] at hev
 | some news=>
  simp only [hel] at hev
  split at hev
  case isFalse=>cases hev
  rename_i hsd
  unfold xD at hev
  split at hev
  ·rename_i la n hSv
   rw [hSv] at hrS
   split at hev
   case h_2=>cases hev
   rename_i t' sz' es hb0
   obtain ⟨B0,hb,hbv⟩:=GF hb0
   split at hev
   case isFalse=>cases hev
   rename_i cc
   obtain ⟨c1,c4,rfl,rfl,c2,c3,c5⟩:=cc
   injection hev with hev
   injection hev with tB tC
   subst tB;subst tC;subst c1
   obtain ⟨p,kc,flat,hxv,hfl,hpn,hcell⟩:=ve s hrX hel hsz hsd
   obtain ⟨h0,hd⟩:=B6 (s.blk la _ hb) hbv
   obtain ⟨b,cs,q1,q2,q3,q5,q6,q7,q8⟩:∃ b cs,G.blk la=some b∧w.heap[b]?=some (.cells cs t' (0,0))∧cs.size=G.cap la * i.size∧es.length<=G.cap la∧G.cap la<=maxLen ∧
     (∀ j,j < es.length->(es.getD j .top).cells.length=i.size∧∀ l,l < i.size->(cs.getD (j * i.size+l) undef).oneCell'=true∧az w G (jC h la.1) ((es.getD j .top).cells.getD l .top) (cs.getD (j * i.size+l) undef))∧(∀ o,¬ G.imm b o):=by
    rcases hd with ⟨_,h2⟩ | ⟨b2,c,h1,h2,h3,_,h5,h6,h7,h8⟩
    ·rw [h2] at c4;simp at c4
    ·exact ⟨b2,c,h1,h2,h3,h5,h6,h7,h8⟩
   obtain ⟨hsx,hLa⟩:a.eval S=.slice (some ⟨b,0,none⟩) es.length (G.cap la)∧dom h la:=by
    generalize a.eval S=x at hrS
    cases hrS with
    | own _ _ _ m2 _ hL hm2 _ _ hx=>
     rw [h0] at hm2
     injection hm2 with hm2
     refine ⟨?_,hL⟩
     rw [hx hm2.symm]
     unfold cu
     rw [q1]
   have VI:es.length * i.size<=cs.size:=by rw [q3];exact Nat.mul_le_mul_right _ q5
   have hxl:(cs.toList.take (es.length * i.size)).length=es.length * i.size:=by simp;omega
   obtain ⟨ad,rfl⟩:∃ ad,p=some ad:=by
    cases p with
    | none=>rw [hpn rfl] at c5;simp at c5
    | some ad=>exact ⟨ad,rfl⟩
   obtain ⟨w',g,cap,cur,hrun,hout⟩:=BO (P:=P) (w:=w) (ty:=o.type) hu hi hzv hzs hsz (v:=.slice (some ⟨b,0,none⟩) es.length (G.cap la)) (n:=es.length) hxl
    (.inr (.inr ⟨b,G.cap la,cs,rfl,q2,q3,q5,q6,rfl⟩)) hfl.len (fun j u hj=>by
     obtain ⟨ad',e1,e2⟩:=hcell j u hj
     injection e1 with e1;subst e1
     exact e2) hfl.one c5 (k:=kc) c2 c3
   have hob:∀ r,(match Value.slice (some ⟨b,0,none⟩) es.length (G.cap la) with | .slice (some p) _ (_+1)=>some p.block | _=>none)=some r->r=b:=fun r hr=>by
    split at hr
    ·rename_i hsl
     injection hsl with e1 _ _
     injection e1 with e1
     injection hr with hr
     rw [<-hr,<-e1]
    ·cases hr
   have hgw:g=b∨w.heap.size<=g:=hout.which.imp (hob g) id
   have Dv:∀ r q,G.imm r q->r≠g:=fun r q hq e=>by
    subst e
    rcases hgw with e1 | e1
    ·rw [e1] at hq;exact q8 q hq
    ·have:=s.imm _ _ hq;omega
   have hI:aM w G w' (G.at_ la (some g) (some (es.length+news.length)) cap):=fun r q hq=>⟨hq,World.cell?_of_block (hout.other r (s.imm r q hq) (Dv r q hq))⟩
   have hG:∀ a',a'≠la->(G.at_ la (some g) (some (es.length+news.length)) cap).blk a'=G.blk a'∧(G.at_ la (some g) (some (es.length+news.length)) cap).len a'=G.len a' ∧
     (G.at_ la (some g) (some (es.length+news.length)) cap).cap a'=G.cap a':=fun a' e=>by simp [Gm.at_,e]
   have hAg:Agree G (G.at_ la (some g) (some (es.length+news.length)) cap) la:=.inr ⟨es.length,es.length+news.length,h0,by simp [Gm.at_],by omega⟩
   have XA:∀ q,Agree G (G.at_ la (some g) (some (es.length+news.length)) cap) q:=fun q=>by
    by_cases e:q=la
    ·rw [e];exact hAg
    ·exact .inl (hG q e)
   have hbl:∀ r,r < w.heap.size->G.blk la≠some r->w'.heap[r]?=w.heap[r]?:=fun r hr1 hr2=>by
    refine hout.other r hr1 fun e=>?_
    subst e
    rcases hgw with e1 | e1
    ·exact hr2 (by rw [q1,e1])
    ·omega
   have hnw:∀ r,(G.at_ la (some g) (some (es.length+news.length)) cap).blk la=some r->G.blk la=some r∨w.heap.size<=r:=fun r hr=>by
    have:g=r:=by simpa [Gm.at_] using hr
    subst this
    rcases hgw with e1 | e1
    ·exact .inl (by rw [q1,e1])
    ·exact .inr e1
   have hgo:=Goes.update (B:=.arv t' i.size (es++news)) hLa hout.os hout.tape hout.output hout.size hbl hG hAg hI hnw (fun _ _ hk=>.inl hk)
   have hA:c.args=#[S,X]:=by rw [<-Array.toArray_toList (xs:=c.args),hargs]
   refine ⟨.value (.slice (some ⟨g,0,none⟩) (es.length+news.length) cap),.slice (some ⟨g,0,none⟩) (es.length+news.length) cap,w',_,?_,.inl rfl,
    s.update hLa hout.size hbl hG hAg hI (fun _ _ hk=>.inl hk) hnw ?_,hgo,?_⟩
   ·have e1:Builtin.append_ c.argTypes o.type #[a.eval S,a.eval X]=Builtin.append_ #[t,t] o.type #[a.eval S,a.eval X]:=by
     unfold Builtin.append_
     simp only [ht0,ht1]
     rfl
    rw [<-hsx,<-hxv] at hrun
    simp only [execOp,ho,resolve,hc,hA,List.map_toArray,List.map_cons,List.map_nil,Sem.run_bind,Sem.run_pure,Result.andThen_ok,invoke,builtin,e1,hrun]
   ·refine ⟨by simp [Gm.at_],.inr ⟨g,cur,by simp [Gm.at_],hout.here,by simpa [Gm.at_] using hout.rows,hsz,by simpa [Gm.at_] using hout.fits,by simpa [Gm.at_] using hout.most,fun j hj=>?_,fun q hk=>absurd rfl (Dv g q hk)⟩⟩
    rw [List.length_append] at hj
    have Oh:∀ J,J < (es.length+news.length) * i.size->cur.getD J undef=(cs.toList.take (es.length * i.size)++flat).getD J undef:=fun J hJ=>by
     rw [<-getD_toList undef cur,<-kP undef cur.toList ((es.length+news.length) * i.size) _ hJ,hout.take]
    by_cases hj1:j < es.length
    ·have e6:(es++news).getD j .top=es.getD j .top:=by simp only [List.getD_eq_getElem?_getD];rw [List.getElem?_append_left hj1]
     rw [e6]
     refine ⟨(q7 j hj1).1,fun l hl=>?_⟩
     have hJ:j * i.size+l < es.length * i.size:=dL hj1 hl
     have e7:cur.getD (j * i.size+l) undef=cs.getD (j * i.size+l) undef:=by
      rw [Oh _ (by rw [Nat.add_mul];omega)]
      simp only [List.getD_eq_getElem?_getD]
      rw [List.getElem?_append_left (by rw [hxl];exact hJ),List.getElem?_take_of_lt hJ]
      simp [Array.getD_eq_getD_getElem?]
     rw [e7]
     exact ⟨((q7 j hj1).2 l hl).1,((q7 j hj1).2 l hl).2.mono hI fun q hq=>⟨⟨hq.1,(aY h la q _).2 hq.2⟩,XA q⟩⟩
    ·have e6:(es++news).getD j .top=news.getD (j - es.length) .top:=by simp only [List.getD_eq_getElem?_getD];rw [List.getElem?_append_right (by omega)]
     rw [e6]
     refine ⟨hfl.sized _ (by omega),fun l hl=>?_⟩
     have hge:es.length * i.size<=j * i.size:=Nat.mul_le_mul_right _ (by omega)
     have hJ:(j - es.length) * i.size+l < news.length * i.size:=dL (by omega) hl
     have e7:cur.getD (j * i.size+l) undef=flat.getD ((j - es.length) * i.size+l) undef:=by
      rw [Oh _ (dL hj hl)]
      simp only [List.getD_eq_getElem?_getD]
      rw [List.getElem?_append_right (by rw [hxl];omega),hxl,Nat.sub_mul]
      congr 2
      omega
     rw [e7]
     refine ⟨hfl.one _ ?_,(hfl.rel _ l (by omega) hl).mono hI fun _ e=>e.elim⟩
     rw [List.getD_eq_getElem?_getD,List.getElem?_eq_getElem (by rw [hfl.len];exact hJ)]
     exact List.getElem_mem _
   ·refine .own _ la _ (es.length+news.length) _ ((aY h la la _).2 hLa) (by simp [Gm.at_]) (Nat.le_refl _) (.inr ⟨g,cap,rfl⟩) fun _=>?_
    simp [cu,Gm.at_]
  ·rename_i hSv
   refine GG (fun v h1 h2=>?_) hev
   refine Kq s hn he ho hc hargs hS hX ht0 ht1 hu hi hz hsz (K:=K) (O:=O) ?_
   simp only [evM,hel,if_pos hsd,hSv]
   exact h2
  ·cases hev
theorem Qi (s:Sim w G h) (hn:h≠[]) {e:Env} {a:Act} (he:aB w G (dom h) e a) {o:Oper} {t:TypeId} {x:Operand} {y:Opd} {sz:Nat} (ho:o.op=.box t x) (hx:aI x=some y) (k:Nat) (hsz:0 < sz)
  {K:Cfg} {O:Orc} {v:AV} {h':Heap} (hev:evM K O (.Qf t sz k y) e h=some (.val v h')):bM P w G h a o v h':=by
 have hr:=aC he hx
 simp only [evM] at hev
 split at hev
 case isFalse=>cases hev
 split at hev
 case h_2=>cases hev
 rename_i u h1 hu
 split at hev
 case isFalse=>cases hev
 rename_i hl
 injection hev with hev
 injection hev with e1 e2
 subst e1;subst e2
 have key:∃ G',Sim w G' h1∧Goes w G h w G' h1∧az w G' (dom h1) u (a.eval x):=by
  generalize a.eval x=X at hr
  unfold Kt at hu
  split at hu
  case h_2=>cases hu
  rename_i cs hye
  rw [hye] at hr
  split at hu
  case h_2=>cases hu
  rename_i c hc
  split at hu
  case h_2=>cases hu
  rename_i c' h2 hv
  injection hu with hu
  injection hu with e1 e2
  subst e1;subst e2
  obtain ⟨vs,rfl,l1,l2,l3⟩:=fT hr
  have hlt:k < cs.length:=(List.getElem?_eq_some_iff.1 hc).1
  obtain ⟨G',k1,k2,k3⟩:=jD c s (by have:=l3 k hlt;rwa [show cs.getD k .top=c by simp [List.getD_eq_getElem?_getD,hc]] at this) hv
  refine ⟨G',k1,k2,.agg _ _ _ (by simp;omega) (fun i hi=>l2 i (by simpa using hi)) fun i hi=>?_⟩
  simp only [List.length_set] at hi
  by_cases hik:k=i
  ·subst hik
   rw [show (cs.set k c').getD k .top=c' by simp [List.getD_eq_getElem?_getD,hlt]]
   exact k3
  ·rw [show (cs.set k c').getD i .top=cs.getD i .top by simp [List.getD_eq_getElem?_getD,List.getElem?_set,hik]]
   exact (l3 i hi).along k2
 obtain ⟨G',k1,k2,k4⟩:=key
 have hne:h1≠[]:=fun e0=>by
  have:=k2.depth
  rw [e0] at this
  cases h<;>simp_all
 obtain ⟨l1,l2,l3⟩:=nV k1 hne (k4.cM (by omega)) t
 refine ⟨_,_,_,_,?_,.inl rfl,l1,k2.trans l2,l3⟩
 simp [execOp,ho,Instr.box,newVar,newRow]
end Go.Ab
/-
  Maps: made, looked up, assigned to, counted.
-/
namespace Go.Ab
open Go.RowKit Go.MapKept
variable {P:Program} {w:World} {G:Gm} {h:Heap} {L:Loc->Prop}
/- Keys. -/
theorem KM {k:FK} {a b:AV} (h:eqF k a b=some true):a=b:=by
 cases k<;>cases a<;>cases b<;>simp [eqF] at h
 ·rw [h]
 ·rw [h.1,h.2]
 ·rw [h]
theorem GH:∀ {ks:List FK} {as bs:List AV},cX ks as bs=some true->as=bs
 | [],[],[],_=>rfl
 | [],[],_ :: _,h=>by simp [cX] at h
 | [],_ :: _,_,h=>by simp [cX] at h
 | _ :: _,[],_,h=>by simp [cX] at h
 | _ :: _,_ :: _,[],h=>by simp [cX] at h
 | k :: ks,a :: as,b :: bs,h=>by
  simp only [cX] at h
  split at h
  ·rename_i p q h1 h2
   injection h with h
   simp only [Bool.and_eq_true] at h
   obtain ⟨rfl,rfl⟩:=h
   rw [KM h1,GH h2]
  ·cases h
theorem QB {kk:KK} {a b:AV} (h:eqK kk a b=some true):a=b:=by
 unfold eqK at h
 split at h
 ·exact KM h
 ·rw [GH h]
 ·cases h
theorem GI {k:FK} {a b:AV} {r:Bool} (h:eqF k a b=some r) {x y:Value} (hx:az w G L a x) {L':Loc->Prop} (hy:az w G L' a y):x=y:=by
 cases k<;>cases a<;>simp [eqF] at h
 ·rw [bC hx,bC hy]
 ·rw [aK hx,aK hy]
 ·rw [bJ hx,bJ hy]
theorem Ca:∀ {ks:List FK} {as bs:List AV} {r:Bool},cX ks as bs=some r->∀ i,i < as.length->∃ k q,eqF k (as.getD i .top) (bs.getD i .top)=some q
 | [],[],[],_,_,i,hi=>by simp at hi
 | [],[],_ :: _,_,h,_,_=>by simp [cX] at h
 | [],_ :: _,_,_,h,_,_=>by simp [cX] at h
 | _ :: _,[],_,_,h,_,_=>by simp [cX] at h
 | _ :: _,_ :: _,[],_,h,_,_=>by simp [cX] at h
 | k :: ks,a :: as,b :: bs,r,h,i,hi=>by
  simp only [cX] at h
  split at h
  ·rename_i p q h1 h2
   cases i with
   | zero=>exact ⟨k,p,by simpa using h1⟩
   | succ i=>simpa using Ca h2 i (by simpa using hi)
  ·cases h
theorem Nq {kk:KK} {a b:AV} {r:Bool} (h:eqK kk a b=some r) {x y:Value} (hx:az w G L a x) {L':Loc->Prop} (hy:az w G L' a y):x=y:=by
 unfold eqK at h
 split at h
 ·exact GI h hx hy
 ·rename_i ks as bs
  cases hx with
  | agg _ _ xs l1 o1 h1=>
   cases hy with
   | agg _ _ ys l2 o2 h2=>
    congr 1
    refine Array.ext (by omega) fun i hi1 hi2=>?_
    obtain ⟨k,q,hk⟩:=Ca h i (by omega)
    have e1:=h1 i (by omega)
    have e2:=h2 i (by omega)
    rw [Array.getD_eq_getD_getElem?,Array.getElem?_eq_getElem hi1] at e1
    rw [Array.getD_eq_getD_getElem?,Array.getElem?_eq_getElem hi2] at e2
    exact GI hk e1 e2
 ·cases h
theorem DJ {k:FK} {a b:AV} {r:Bool} (h:eqF k a b=some r):a.aJ (fun _=>false)=true:=by
 cases k<;>cases a<;>simp [eqF] at h<;>rfl
theorem AR:∀ {ks:List FK} {as bs:List AV} {r:Bool},cX ks as bs=some r->AV.bH (fun _=>false) as=true
 | [],[],[],_,_=>rfl
 | [],[],_ :: _,_,h=>by simp [cX] at h
 | [],_ :: _,_,_,h=>by simp [cX] at h
 | _ :: _,[],_,_,h=>by simp [cX] at h
 | _ :: _,_ :: _,[],_,h=>by simp [cX] at h
 | k :: ks,a :: as,b :: bs,r,h=>by
  simp only [cX] at h
  split at h
  ·rename_i p q h1 h2
   simp only [AV.bH,Bool.and_eq_true]
   exact ⟨DJ h1,AR h2⟩
  ·cases h
theorem DK {kk:KK} {a b:AV} {r:Bool} (h:eqK kk a b=some r):a.pure=true:=by
 unfold eqK at h
 split at h
 ·exact DJ h
 ·exact AR h
 ·cases h
def fY (kk:KK) (k:AV):List (AV×AV)->Option (Option Nat)
 | []=>some none
 | (a,_) :: r=>match eqK kk k a with
  | some true=>some (some 0)
  | some false=>(fY kk k r).map (·.map (·+1))
  | none=>none
theorem Cb {kk:KK} {k:AV}:∀ {es:List (AV×AV)} {r:Option AV},eZ kk k es=some r->(r=none∧fY kk k es=some none)∨∃ i a v,r=some v∧fY kk k es=some (some i)∧es[i]?=some (a,v)
 | [],r,h=>by simp only [eZ,Option.some.injEq] at h;exact .inl ⟨h.symm,rfl⟩
 | (a,v) :: es,r,h=>by
  simp only [eZ] at h
  split at h
  ·rename_i he
   injection h with h
   exact .inr ⟨0,a,v,h.symm,by simp [fY,he],rfl⟩
  ·rename_i he
   rcases Cb h with ⟨h1,h2⟩ | ⟨i,b,u,h1,h2,h3⟩
   ·exact .inl ⟨h1,by simp [fY,he,h2]⟩
   ·exact .inr ⟨i+1,b,u,h1,by simp [fY,he,h2],by simpa using h3⟩
  ·cases h
theorem KN {kk:KK} {k v:AV}:∀ {es es':List (AV×AV)},pW kk k v es=some es'->(fY kk k es=some none∧es'=es++[(k,v)])∨∃ i a u,fY kk k es=some (some i)∧es[i]?=some (a,u)∧es'=es.set i (a,v)∧eqK kk k a=some true
 | [],es',h=>by simp only [pW,Option.some.injEq] at h;exact .inl ⟨rfl,h.symm⟩
 | (a,u) :: es,es',h=>by
  simp only [pW] at h
  split at h
  ·rename_i he
   injection h with h
   exact .inr ⟨0,a,u,by simp [fY,he],rfl,h.symm,he⟩
  ·rename_i he
   split at h
   ·rename_i r hr
    injection h with h
    subst h
    rcases KN hr with ⟨h1,h2⟩ | ⟨i,b,x,h1,h2,h3,h4⟩
    ·exact .inl ⟨by simp [fY,he,h1],by simp [h2]⟩
    ·exact .inr ⟨i+1,b,x,by simp [fY,he,h1],by simpa using h2,by simp [h3],h4⟩
   ·cases h
  ·cases h
theorem xQ {k:FK} {t:TypeId} {d:TypeDesc} (hu:P.underlying t=some d) (hk:rG P t=some k) {a b:AV} {x y:Value} (ha:az w G L a x) {L':Loc->Prop} (hb:az w G L' b y) {r:Bool} (he:eqF k a b=some r) :
  Instr.sameNow d x y=some r:=by
 unfold rG at hk
 rw [hu] at hk
 cases k with
 | bool=>
  cases a<;>cases b<;>simp [eqF] at he
  have e1:=bC ha
  have e2:=bC hb
  subst e1 e2
  split at hk<;>simp at hk
  rename_i hd
  injection hd with hd
  subst hd
  rw [<-he]
  rename_i p q _
  cases p<;>cases q<;>rfl
 | int=>
  cases a<;>cases b<;>simp [eqF] at he
  obtain ⟨rfl,he⟩:=he
  have e1:=aK ha
  have e2:=aK hb
  subst e1 e2
  split at hk<;>simp at hk
  rename_i hd
  injection hd with hd
  subst hd
  simp only [Instr.sameNow,if_true,<-he]
  rfl
 | str=>
  cases a<;>cases b<;>simp [eqF] at he
  have e1:=bJ ha
  have e2:=bJ hb
  subst e1 e2
  split at hk<;>simp at hk
  rename_i hd
  injection hd with hd
  subst hd
  simp only [Instr.sameNow,<-he]
  congr 1
  rw [Bool.eq_iff_iff,bytes_beq]
  simp
def EW (w:World) (G:Gm) (L:Loc->Prop) (es:List (AV×AV)) (l:List MapEntry):Prop:=
 l.length=es.length∧∀ i,i < es.length->az w G bf (es.getD i (.top,.top)).1 (l.getD i default).key∧az w G L (es.getD i (.top,.top)).2 (l.getD i default).val
theorem EW.tail {e:AV×AV} {es:List (AV×AV)} {m:MapEntry} {l:List MapEntry} (hr:EW w G L (e :: es) (m :: l)):EW w G L es l:=
 ⟨by simpa using hr.1,fun i hi=>by simpa using hr.2 (i+1) (by simpa using hi)⟩
theorem xR {k:FK} {t:TypeId} {d:TypeDesc} (hu:P.underlying t=some d) (hk:rG P t=some k) {kv:AV} {x:Value} (hx:az w G L kv x) {L':Loc->Prop}:∀ {es:List (AV×AV)} {l:List MapEntry} {r:Option Nat} (n:Nat),EW w G L' es l ->
  fY (.one k) kv es=some r->Instr.findNow d x l n=some (r.map fun i=>(n+i,(l.getD i default).val))
 | [],l,r,n,hr,hf=>by
  have:l=[]:=List.eq_nil_of_length_eq_zero (by simpa using hr.1)
  subst this
  simp only [fY,Option.some.injEq] at hf
  subst hf
  rfl
 | (a,v) :: es,[],r,n,hr,hf=>by simpa using hr.1
 | (a,v) :: es,m :: l,r,n,hr,hf=>by
  have h0:=(hr.2 0 (by simp)).1
  simp only [List.getD_cons_zero] at h0
  simp only [fY,eqK] at hf
  split at hf
  ·rename_i he
   injection hf with hf
   subst hf
   simp [Instr.findNow,xQ hu hk hx h0 he]
  ·rename_i he
   cases hq:fY (.one k) kv es with
   | none=>rw [hq] at hf;cases hf
   | some q=>
    rw [hq] at hf
    injection hf with hf
    subst hf
    have ih:=xR hu hk hx (n+1) hr.tail hq
    simp only [Instr.findNow,xQ hu hk hx h0 he,ih]
    cases q with
    | none=>rfl
    | some i=>simp;omega
  ·cases hf
theorem xS {t:TypeId} {ks:List FK} (hf:lU P t=some ks) {as bs:List AV} {x y:Value} (hx:az w G L (.agg as) x) (hy:az w G L (.agg bs) y) {r:Bool} (h3:cX ks as bs=some r):(Op.equal t x y).run P w=.ok r w:=by
 unfold lU at hf
 split at hf
 ·rename_i fs hu
  split at hf
  ·rename_i hc
   obtain ⟨hsi,hgt⟩:=hc
   cases hx with
   | agg L as xs al ao ah=>
    cases hy with
    | agg L bs ys bl bo bh=>
     have hP:P.fieldsOf t=fs:=by unfold Program.fieldsOf;rw [hu]
     have hu2:P.underlying t=some (.struct (P.fieldsOf t)):=by rw [hP];exact hu
     have key:∀ d,(Op.equalIn (d+1+1) t (.agg xs) (.agg ys)).run P w=.ok r w:=fun d=>by
      rw [run_equalIn_struct w (d+1) t xs ys hu2 hsi,hP]
      exact xU d ⟨al,fun i hi=>⟨ao i hi,ah i hi⟩⟩ ⟨bl,fun i hi=>⟨bo i hi,bh i hi⟩⟩ fs.toList 0 ks r hf h3
     exact key 9998
  ·cases hf
 ·cases hf
theorem EX {ks:List FK} {a b:AV} {r:Bool} (h:eqK (.st ks) a b=some r):∃ as bs,a=.agg as∧b=.agg bs∧cX ks as bs=some r:=by
 cases a<;>simp [eqK] at h
 cases b<;>simp at h
 exact ⟨_,_,rfl,rfl,h⟩
theorem xV {ks:List FK} {t:TypeId} (hf:lU P t=some ks) {kv:AV} {x:Value} (hx:az w G L kv x) (hp:kv.pure=true) {L':Loc->Prop}:∀ {es:List (AV×AV)} {l:List MapEntry} {r:Option Nat} (n:Nat),EW w G L' es l ->
  fY (.st ks) kv es=some r->(Instr.findAsking t x l n).run P w=.ok (r.map fun i=>(n+i,(l.getD i default).val)) w
 | [],l,r,n,hr,hi=>by
  have:l=[]:=List.eq_nil_of_length_eq_zero (by simpa using hr.1)
  subst this
  simp only [fY,Option.some.injEq] at hi
  subst hi
  rfl
 | (a,v) :: es,[],r,n,hr,hi=>by simpa using hr.1
 | (a,v) :: es,m :: l,r,n,hr,hi=>by
  have h0:=(hr.2 0 (by simp)).1
  simp only [List.getD_cons_zero] at h0
  simp only [fY] at hi
  split at hi
  ·rename_i he
   injection hi with hi
   subst hi
   obtain ⟨as,bs,rfl,rfl,h3⟩:=EX he
   have k:=xS hf (hx.DL hp (L':=bf)) h0 h3
   simp [Instr.findAsking,k]
  ·rename_i he
   cases hq:fY (.st ks) kv es with
   | none=>rw [hq] at hi;cases hi
   | some q=>
    rw [hq] at hi
    injection hi with hi
    subst hi
    have ih:=xV hf hx hp (n+1) hr.tail hq
    obtain ⟨as,bs,rfl,rfl,h3⟩:=EX he
    have k:=xS hf (hx.DL hp (L':=bf)) h0 h3
    simp only [Instr.findAsking,Sem.run_bind,k,Result.andThen_ok,Bool.false_eq_true,if_false,ih]
    cases q with
    | none=>rfl
    | some i=>simp;omega
  ·cases hi
theorem find_ok {kk:KK} {t:TypeId} (hk:Cc P t=some kk) {kv:AV} {x:Value} (hx:az w G L kv x) (hp:kv.pure=true) {L':Loc->Prop} {es:List (AV×AV)} {l:List MapEntry} {r:Option Nat} (hr:EW w G L' es l)
  (hf:fY kk kv es=some r):(Instr.findKey t x l).run P w=.ok (r.map fun i=>(i,(l.getD i default).val)) w:=by
 unfold Cc at hk
 split at hk
 ·rename_i k KO
  split at hk
  ·rename_i hsh
   injection hk with hk
   subst hk
   obtain ⟨d,i,hu,_⟩:=fW hsh
   have:=xR hu KO hx 0 hr hf
   simp only [Nat.zero_add] at this
   exact run_findKey hu this
  ·cases hk
 ·split at hk
  ·rename_i ks hfl
   injection hk with hk
   subst hk
   have hw:(match P.underlying t with | some (.array _ _) | some (.struct _)=>true | _=>false)=true:=by
    unfold lU at hfl
    split at hfl
    ·rename_i fs hu
     rw [hu]
    ·cases hfl
   have:=xV hfl hx hp 0 hr hf
   simp only [Nat.zero_add] at this
   rw [run_findKey_eq w hw x l]
   exact this
  ·cases hk
theorem AU {k:FK} {t:TypeId} (hk:rG P t=some k) {a b:AV} {x:Value} (ha:az w G L a x) {r:Bool} (he:eqF k a b=some r) (em:Bool) (n:Nat):(Instr.checkKey em (n+1) t x).run P w=.ok () w:=by
 unfold rG at hk
 cases k with
 | bool=>
  cases a<;>simp [eqF] at he
  have e1:=bC ha
  subst e1
  split at hk<;>simp at hk
  rename_i hu
  simp [Instr.checkKey,run_underlying hu]
 | int=>
  cases a<;>simp [eqF] at he
  have e1:=aK ha
  subst e1
  split at hk<;>simp at hk
  rename_i hu
  simp [Instr.checkKey,run_underlying hu]
 | str=>
  cases a<;>simp [eqF] at he
  have e1:=bJ ha
  subst e1
  split at hk<;>simp at hk
  rename_i hu
  simp [Instr.checkKey,run_underlying hu]
theorem rH (em:Bool) (n:Nat) {as bs:List AV} {xs:Array Value} (ha:cm w G L as xs):∀ (fs:List Field) (i:Nat) (ks:List FK) (r:Bool),qh P i fs=some ks->cX ks (as.drop i) (bs.drop i)=some r ->
  ∀ f ∈ fs, f.name ≠ "_" ∧ ∃ x, (part f.type xs f.offset).run P w = .ok x w ∧ (Instr.checkKey em (n + 1) f.type x).run P w = .ok () w
 | [],i,ks,r,hk,he=>by simp
 | f :: fs,i,ks,r,hk,he=>by
  simp only [qh] at hk
  split at hk
  ·rename_i hc
   obtain ⟨ho,hn,hsh⟩:=hc
   split at hk
   ·rename_i k s h1 h2
    injection hk with hk
    subst hk
    cases h3:as.drop i with
    | nil=>simp [h3,cX] at he
    | cons a as'=>
     cases h4:bs.drop i with
     | nil=>simp [h3,h4,cX] at he
     | cons b bs'=>
      simp only [h3,h4,cX] at he
      split at he
      ·rename_i p q h5 h6
       have ga:as[i]?=some a:=by
        have:(as.drop i)[0]?=some a:=by rw [h3];rfl
        simpa using this
       have da:as.drop (i+1)=as':=by
        have:(as.drop i).drop 1=as':=by rw [h3];rfl
        simpa using this
       have db:bs.drop (i+1)=bs':=by
        have:(bs.drop i).drop 1=bs':=by rw [h4];rfl
        simpa using this
       obtain ⟨x,k1,k2⟩:=mY ha hsh (off:=i) (v:=a) (by simpa using ga)
       have k5:=AU h1 k2 h5 em n
       have k6:=rH em n (bs:=bs) ha fs (i+1) s q h2 (by rw [da,db];exact h6)
       intro g hg
       rcases List.mem_cons.1 hg with rfl | hg
       ·exact ⟨hn,x,by rw [ho];exact k1,k5⟩
       ·exact k6 g hg
      ·cases he
   ·cases hk
  ·cases hk
theorem DM {α:Type} {body:α->PUnit->Sem (ForInStep PUnit)}:∀ {l:List α},(∀ x∈l,(body x PUnit.unit).run P w=.ok (.yield PUnit.unit) w)->(forIn l PUnit.unit body).run P w=.ok PUnit.unit w
 | [],_=>by simp
 | x :: l,h=>by
  simp only [List.forIn_cons,Sem.run_bind,h x (by simp),Result.andThen_ok]
  exact DM fun y hy=>h y (by simp [hy])
theorem xW {kk:KK} {t:TypeId} (hk:Cc P t=some kk) {a b:AV} {x:Value} (hx:az w G L a x) {r:Bool} (he:eqK kk a b=some r) (em:Bool):(Instr.checkKey em 10000 t x).run P w=.ok () w:=by
 unfold Cc at hk
 split at hk
 ·rename_i k KO
  split at hk
  ·injection hk with hk
   subst hk
   exact AU KO hx he em 9999
  ·cases hk
 ·split at hk
  ·rename_i ks hfl
   injection hk with hk
   subst hk
   obtain ⟨as,bs,rfl,rfl,h3⟩:=EX he
   unfold lU at hfl
   split at hfl
   ·rename_i fs hu
    split at hfl
    ·cases hx with
     | agg L as xs al ao ah=>
      have:=rH (P:=P) em 9998 (bs:=bs) (xs:=xs) ⟨al,fun i hi=>⟨ao i hi,ah i hi⟩⟩ fs.toList 0 ks r hfl h3
      rw [show (10000:Nat)=9999+1 from rfl,Instr.checkKey]
      simp only [Sem.run_bind,run_underlying hu,Result.andThen_ok]
      rw [<-Array.forIn_toList]
      rw [DM fun f hf=>?_]
      ·rfl
      ·obtain ⟨hn,x,k1,k2⟩:=this f hf
       simp [hn,k1,k2]
    ·cases hfl
   ·cases hfl
  ·cases hk
theorem DN {k:FK} {a b:AV} {r:Bool} (he:eqF k a b=some r) {x:Value} (ha:az w G L a x) (n:Nat):Instr.sameBits n x x=true:=by
 cases k<;>cases a<;>simp [eqF] at he
 ·rw [bC ha];simp [Instr.sameBits]
 ·rw [aK ha];simp [Instr.sameBits]
 ·rw [bJ ha];simp [Instr.sameBits,bytes_beq]
theorem qN {α:Type} {p:α->α->Bool}:∀ {l:List α},(∀ x∈l,p x x=true)->(l.zip l).all (fun (x,y)=>p x y)=true
 | [],_=>rfl
 | x :: l,h=>by
  simp only [List.zip_cons_cons,List.all_cons,Bool.and_eq_true]
  exact ⟨h x (by simp),qN fun y hy=>h y (by simp [hy])⟩
theorem Nr {kk:KK} {a b:AV} {r:Bool} (he:eqK kk a b=some r) {x:Value} (ha:az w G L a x) (n:Nat):Instr.sameBits (n+1) x x=true:=by
 unfold eqK at he
 split at he
 ·exact DN he ha _
 ·rename_i ks as bs
  cases ha with
  | agg _ _ xs l1 o1 h1=>
   simp only [Instr.sameBits,beq_self_eq_true,Bool.true_and]
   refine qN fun y hy=>?_
   obtain ⟨i,hi,e⟩:=List.getElem_of_mem hy
   have hi2:i < xs.size:=by simpa using hi
   obtain ⟨k,q,hk⟩:=Ca he i (by omega)
   have e1:=h1 i (by omega)
   rw [Array.getD_eq_getD_getElem?,Array.getElem?_eq_getElem hi2] at e1
   have e3:xs[i]=y:=by simpa using e
   rw [e3] at e1
   exact DN hk e1 n
 ·cases he
theorem xX {a:Loc} {x:Value} (h:az w G L (.mp a) x):∃ b,x=.map (some b)∧L a∧G.len a=none∧G.blk a=some b:=by
 cases h with
 | mp _ a b hL hm hb=>exact ⟨b,rfl,hL,hm,hb⟩
theorem GJ {es:List (AV×AV)} {entries:Array MapEntry} (h1:entries.size=es.length)
  (h2:∀ i,i < es.length->az w G bf (es.getD i (.top,.top)).1 (entries.getD i default).key∧az w G L (es.getD i (.top,.top)).2 (entries.getD i default).val):EW w G L es entries.toList:=
 ⟨by simpa using h1,fun i hi=>by
  have:=h2 i hi
  rwa [show entries.toList.getD i default=entries.getD i default by simp [List.getD_eq_getElem?_getD,Array.getD_eq_getD_getElem?]]⟩
theorem Ob (s:Sim w G h) (hn:h≠[]) {a:Act} {o:Oper} {t:TypeId} {r:Option Operand} (ho:o.op=.makeMap t r) (hr:r=none∨∃ k n,r=some (.const (.int k n))∧∃ kt et,P.underlying t=some (.map kt et)) :
  bM P w G h a o (.mp (hnext h)) (hnew h (.map [])):=by
 have hb:∀ k,k < w.heap.size->(w.alloc (.map #[] 0)).heap[k]?=w.heap[k]?:=fun k hk=>heap_alloc_old w _ hk
 have g:=Goes.new (w':=w.alloc (.map #[] 0)) (B:=.map []) (b:=some w.heap.size) (n:=none) (c:=0) s hn rfl rfl rfl (by simp) hb (fun k hk=>by injection hk with hk;omega)
 refine ⟨_,.map (some w.heap.size),w.alloc (.map #[] 0),G.at_ (hnext h) (some w.heap.size) none 0,?_,.inl rfl,s.new hn (by simp) hb (fun k hk=>by injection hk with hk;omega) ?_,g,?_⟩
 ·rcases hr with rfl | ⟨k,n,rfl,kt,et,hu⟩
  ·simp [execOp,ho,Instr.makeMap]
  ·simp [execOp,ho,Instr.makeMap,run_underlying hu,asInt,asIntOf,Act.eval]
 ·exact ⟨w.heap.size,#[],0,by simp [Gm.at_],by simp [Gm.at_],heap_alloc_new w _,rfl,fun i hi=>absurd hi (by simp)⟩
 ·exact .mp _ _ _ ((cj hn _ _).2 (.inl rfl)) (by simp [Gm.at_]) (by simp [Gm.at_])
theorem Vx (s:Sim w G h) {e:Env} {a:Act} (he:aB w G (dom h) e a) {o:Oper} {t kt et:TypeId} {x k:Operand} {x' k':Opd} {ok:Bool} {kk:KK} {z:AV}
  (ho:o.op=.lookup t x k ok) (hx:aI x=some x') (hk:aI k=some k') (hu:P.underlying t=some (.map kt et)) (hkk:Cc P kt=some kk) (hz:zeroOf P et=some z)
  {K:Cfg} {O:Orc} {v:AV} {h':Heap} (hev:evM K O (.lkp kk z ok x' k') e h=some (.val v h')):bM P w G h a o v h':=by
 have hr:=aC he hx
 have hrk:=aC he hk
 obtain ⟨i,zv,hi,hzv,hzz,hzl⟩:=bR hz
 have hzr:az w G (dom h) z zv:=by rw [hzz];exact dB zv
 have hrun:(zeroValue et).run P w=.ok zv w:=by simp [zeroValue,typeInfo,hi,hzv]
 have done:∀ {y:Value} {u:AV} {b:Bool},az w G (dom h) u y->(Instr.lookup t (a.eval x) (a.eval k) ok).run P w=.ok (if ok then .tuple #[y,.bool b] else y) w->bM P w G h a o (if ok then .tup [u,.bool b] else u) h:=fun {y u b} hy hl=>by
  refine ⟨_,(if ok then .tuple #[y,.bool b] else y),w,G,?_,.inl rfl,s,Goes.refl _ _ _,?_⟩
  ·simp [execOp,ho,hl]
  ·cases ok
   ·exact hy
   ·simp only [if_true]
    refine .tup _ _ _ rfl fun i hi=>?_
    match i,hi with
    | 0,_=>exact hy
    | 1,_=>exact .bool _ _
    | i+2,hi=>simp at hi;omega
 simp only [evM] at hev
 split at hev
 ·rename_i m hm
  rw [hm] at hr
  obtain ⟨b,e1,hL,hlen,hblk⟩:=xX hr
  split at hev
  ·rename_i es hes
   obtain ⟨b',entries,clock,h1,h2,h3,h4,h5⟩:=s.blk m _ hes
   rw [hblk] at h2
   injection h2 with h2
   subst h2
   split at hev
   ·rename_i q hq
    have hck:=fun em=>xW (P:=P) hkk hrk hq em
    have hp:(k'.ev e).pure=true:=DK hq
    have er:=GJ h4 h5
    split at hev
    ·rename_i u hlk
     injection hev with hev
     injection hev with ev1 ev2
     subst ev1 ev2
     rcases Cb hlk with ⟨c1,_⟩ | ⟨j,ka,u',c1,c2,c3⟩
     ·cases c1
     ·injection c1 with c1
      subst c1
      have hf:=find_ok (P:=P) hkk hrk hp er c2
      have hj:j < es.length:=(List.getElem?_eq_some_iff.1 c3).1
      have:=(er.2 j hj).2
      rw [show es.getD j (.top,.top)=(ka,u) by simp [List.getD_eq_getElem?_getD,c3]] at this
      exact done (this.wider fun a ha=>ha.2) (by rw [e1];simp [Instr.lookup,run_underlying hu,Go.MapKept.run_getObj_map h3,hck,hf])
    ·rename_i hlk
     injection hev with hev
     injection hev with ev1 ev2
     subst ev1 ev2
     rcases Cb hlk with ⟨_,c2⟩ | ⟨j,ka,u',c1,c2,c3⟩
     ·have hf:=find_ok (P:=P) hkk hrk hp er c2
      exact done hzr (by rw [e1];simp [Instr.lookup,run_underlying hu,Go.MapKept.run_getObj_map h3,hck,hf,hrun])
     ·cases c1
    ·cases hev
   ·cases hev
  ·cases hev
 ·rename_i hm
  rw [hm] at hr
  have e1:a.eval x=.map none:=by
   generalize a.eval x=xv at hr
   cases hr
   rfl
  split at hev
  ·rename_i q hq
   injection hev with hev
   injection hev with ev1 ev2
   subst ev1 ev2
   have hck:=fun em=>xW (P:=P) hkk hrk hq em
   have hf:=find_ok (P:=P) (es:=[]) (l:=[]) (L':=bf) (r:=none) hkk hrk (DK hq) ⟨rfl,fun i hi=>absurd hi (by simp)⟩ rfl
   exact done hzr (by rw [e1];simp [Instr.lookup,run_underlying hu,hck,hf,hrun])
  ·cases hev
 ·cases hev
theorem Oc (s:Sim w G h) {e:Env} {a:Act} (he:aB w G (dom h) e a) {o:Oper} {t kt et:TypeId} {x k v:Operand} {x' k' v':Opd} {kk:KK}
  (ho:o.op=.mapUpdate t x k v∨o.op=.insert t x k v) (hx:aI x=some x') (hk:aI k=some k') (hv:aI v=some v') (hu:P.underlying t=some (.map kt et)) (hkk:Cc P kt=some kk)
  {K:Cfg} {O:Orc} {u:AV} {h':Heap} (hev:evM K O (.mup kk x' k' v') e h=some (.val u h')):bM P w G h a o u h':=by
 have hr:=aC he hx
 have hrk:=aC he hk
 have hrv:=aC he hv
 have hex:(execOp a.eval o).run P w=((Instr.mapUpdate t (a.eval x) (a.eval k) (a.eval v)).run P w).andThen fun _ w'=>.ok .skip w':=by
  rcases ho with ho | ho<;>simp [execOp,ho]<;>rfl
 simp only [evM] at hev
 split at hev
 ·rename_i m hm
  rw [hm] at hr
  obtain ⟨b,e1,hL,hlen,hblk⟩:=xX hr
  split at hev
  ·rename_i es hes
   obtain ⟨b',entries,clock,h1,h2,h3,h4,h5⟩:=s.blk m _ hes
   rw [hblk] at h2
   injection h2 with h2
   subst h2
   split at hev
   ·rename_i hc
    obtain ⟨hp,KJ⟩:=hc
    split at hev
    ·rename_i q es' hq hup
     injection hev with hev
     injection hev with ev1 ev2
     subst ev1 ev2
     have hck:=fun em=>xW (P:=P) hkk hrk hq em
     have er:=GJ h4 h5
     have key:∃ entries' clock',(Instr.mapUpdate t (.map (some b)) (a.eval k) (a.eval v)).run P w=.ok () { w with heap:=w.heap.setIfInBounds b (.map entries' clock') }∧entries'.size=es'.length ∧
       ∀ i,i < es'.length->((es'.getD i (.top,.top)).1=k'.ev e∧(entries'.getD i default).key=a.eval k∨((es'.getD i (.top,.top)).1=(es.getD i (.top,.top)).1∧(entries'.getD i default).key=(entries.getD i default).key∧i < es.length)) ∧
        ((es'.getD i (.top,.top)).2=v'.ev e∧(entries'.getD i default).val=a.eval v∨((es'.getD i (.top,.top)).2=(es.getD i (.top,.top)).2∧(entries'.getD i default).val=(entries.getD i default).val∧i < es.length)):=by
      rcases KN hup with ⟨c1,c2⟩ | ⟨j,ka,u0,c1,c2,c3,c4⟩
      ·have hf:=find_ok (P:=P) hkk hrk hp er c1
       refine ⟨entries.push { key:=a.eval k,val:=a.eval v,born:=clock },clock+1,?_,?_,fun i hi=>?_⟩
       ·simp [Instr.mapUpdate,run_underlying hu,Go.MapKept.run_getObj_map h3,hck,hf,Go.MapKept.run_setObj_map _ h3]
       ·rw [c2];simp [h4]
       ·rw [c2] at hi ⊢
        simp only [List.length_append,List.length_singleton] at hi
        by_cases hl:i < es.length
        ·have p1:(es++[(k'.ev e,v'.ev e)]).getD i (.top,.top)=es.getD i (.top,.top):=by simp [List.getD_eq_getElem?_getD,List.getElem?_append_left hl]
         have p2:(entries.push { key:=a.eval k,val:=a.eval v,born:=clock }).getD i default=entries.getD i default:=by
          simp only [Array.getD_eq_getD_getElem?]
          rw [Array.getElem?_push_lt (by omega),Array.getElem?_eq_getElem (by omega)]
         rw [p1,p2]
         exact ⟨.inr ⟨rfl,rfl,hl⟩,.inr ⟨rfl,rfl,hl⟩⟩
        ·have hi2:i=es.length:=by omega
         have p1:(es++[(k'.ev e,v'.ev e)]).getD i (.top,.top)=(k'.ev e,v'.ev e):=by simp [List.getD_eq_getElem?_getD,hi2]
         have p2:(entries.push { key:=a.eval k,val:=a.eval v,born:=clock }).getD i default={ key:=a.eval k,val:=a.eval v,born:=clock }:=by
          rw [hi2,<-h4]
          simp [Array.getD_eq_getD_getElem?]
         rw [p1,p2]
         exact ⟨.inl ⟨rfl,rfl⟩,.inl ⟨rfl,rfl⟩⟩
      ·have hf:=find_ok (P:=P) hkk hrk hp er c1
       have hj:j < es.length:=(List.getElem?_eq_some_iff.1 c2).1
       have hj2:j < entries.size:=by omega
       have hka:=QB c4
       have hkr:=(er.2 j hj).1
       rw [show es.getD j (.top,.top)=(ka,u0) by simp [List.getD_eq_getElem?_getD,c2]] at hkr
       have hsame:entries[j].key=a.eval k:=by
        have e2:(entries.toList.getD j default).key=entries[j].key:=by simp [List.getD_eq_getElem?_getD,hj2]
        rw [<-e2]
        simp only at hkr
        rw [<-hka] at hkr
        exact Nq hq hkr hrk
       refine ⟨entries.modify j fun e0=>{ e0 with key:=a.eval k,val:=a.eval v },clock,?_,?_,fun i hi=>?_⟩
       ·have VJ:=Nr hq hrk 9999
        simp [Instr.mapUpdate,run_underlying hu,Go.MapKept.run_getObj_map h3,hck,hf,Go.MapKept.run_setObj_map _ h3,Instr.keyThatStays,hj2,hsame,VJ]
       ·rw [c3];simp [h4]
       ·rw [c3] at hi ⊢
        simp only [List.length_set] at hi
        by_cases hij:i=j
        ·subst hij
         have p1:(es.set i (ka,v'.ev e)).getD i (.top,.top)=(ka,v'.ev e):=by simp [List.getD_eq_getElem?_getD,hi]
         have p2:(entries.modify i fun e0=>{ e0 with key:=a.eval k,val:=a.eval v }).getD i default={ entries[i] with key:=a.eval k,val:=a.eval v }:=by
          rw [Array.getD_eq_getD_getElem?,Array.getElem?_modify,if_pos rfl,Array.getElem?_eq_getElem hj2]
          rfl
         rw [p1,p2]
         exact ⟨.inl ⟨hka.symm,rfl⟩,.inl ⟨rfl,rfl⟩⟩
        ·have p1:(es.set j (ka,v'.ev e)).getD i (.top,.top)=es.getD i (.top,.top):=by simp [List.getD_eq_getElem?_getD,List.getElem?_set,Ne.symm hij]
         have p2:(entries.modify j fun e0=>{ e0 with key:=a.eval k,val:=a.eval v }).getD i default=entries.getD i default:=by
          simp [Array.getD_eq_getD_getElem?,Array.getElem?_modify,Ne.symm hij]
         rw [p1,p2]
         exact ⟨.inr ⟨rfl,rfl,hi⟩,.inr ⟨rfl,rfl,hi⟩⟩
     obtain ⟨entries',clock',hrun,hsz,hent⟩:=key
     have hw:∀ r,r≠b->({ w with heap:=w.heap.setIfInBounds b (.map entries' clock') }:World).heap[r]?=w.heap[r]?:=fun r hr=>(heap_set (o':=.map entries' clock') h3).2 r hr
     have hI:aM w G { w with heap:=w.heap.setIfInBounds b (.map entries' clock') } G:=fun r q hi=>by
      refine ⟨hi,?_⟩
      by_cases hrb:r=b
      ·subst hrb
       simp [World.cell?,(heap_set (o':=.map entries' clock') h3).1,h3]
      ·exact World.cell?_of_block (hw r hrb)
     have hA:∀ a,Agree G G a:=Agree.refl G
     refine ⟨_,undef,{ w with heap:=w.heap.setIfInBounds b (.map entries' clock') },G,?_,.inr ⟨rfl,rfl⟩,
      s.update hL (by simp) (fun r _ hr=>hw r fun e=>hr (by rw [e];exact hblk)) (fun _ _=>⟨rfl,rfl,rfl⟩) (hA m) hI (fun _ _ hi=>.inl hi) (fun _ hk=>.inl hk) ?_,
      Goes.update hL rfl rfl rfl (by simp) (fun r _ hr=>hw r fun e=>hr (by rw [e];exact hblk)) (fun _ _=>⟨rfl,rfl,rfl⟩) (hA m) hI (fun _ hk=>.inl hk) (fun _ _ hk=>.inl hk),?_⟩
     ·rw [hex,e1,hrun];rfl
     ·refine ⟨b,entries',clock',h1,hblk,(heap_set (o':=.map entries' clock') h3).1,hsz,fun i hi=>?_⟩
      obtain ⟨c1,c2⟩:=hent i hi
      constructor
      ·rcases c1 with ⟨q1,q2⟩ | ⟨q1,q2,q3⟩
       ·rw [q1,q2]
        exact (hrk.DL hp (L':=bf)).mono hI fun a ha=>ha.elim
       ·rw [q1,q2]
        exact (h5 i q3).1.mono hI fun a ha=>ha.elim
      ·rcases c2 with ⟨q1,q2⟩ | ⟨q1,q2,q3⟩
       ·rw [q1,q2]
        exact hrv.goes hI (p:=fun q=>decide (q.1<=m.1)) KJ fun q hq hpq=>⟨⟨by simpa using hpq,(aY h m q _).2 hq⟩,hA q⟩
       ·rw [q1,q2]
        exact (h5 i q3).2.mono hI fun q hq=>⟨⟨hq.1,(aY h m q _).2 hq.2⟩,hA q⟩
     ·exact .tup _ _ _ rfl fun i hi=>by simp at hi
    ·cases hev
   ·cases hev
  ·cases hev
 ·cases hev
theorem Qp (s:Sim w G h) {e:Env} {a:Act} (he:aB w G (dom h) e a) {o:Oper} {c:Call} {t kt et:TypeId} {x:Operand} {x':Opd}
  (ho:o.op=.call c) (hc:c.callee=.builtin .len) (hargs:c.args.toList=[x]) (hx:aI x=some x') (ht:c.argTypes[0]?=some t) (hu:P.underlying t=some (.map kt et))
  {K:Cfg} {O:Orc} {v:AV} {h':Heap} (hev:evM K O (.Eo x') e h=some (.val v h')):bM P w G h a o v h':=by
 have hr:=aC he hx
 obtain ⟨as,XB⟩:∃ as,c.args=as:=⟨_,rfl⟩
 have KP:c.args=#[x]:=by
  have:=congrArg List.toArray hargs
  simpa using this
 simp only [evM] at hev
 split at hev
 ·rename_i m hm
  rw [hm] at hr
  obtain ⟨b,e1,hL,hlen,hblk⟩:=xX hr
  split at hev
  ·rename_i es hes
   injection hev with hev
   injection hev with ev1 ev2
   subst ev1 ev2
   obtain ⟨b',entries,clock,h1,h2,h3,h4,h5⟩:=s.blk m _ hes
   rw [hblk] at h2
   injection h2 with h2
   subst h2
   refine ⟨_,.int .i64 (es.length:Int),w,G,?_,.inl rfl,s,Goes.refl _ _ _,.int _ _ _⟩
   simp [execOp,ho,resolve,hc,KP,invoke,builtin,Builtin.len_,ht,e1,run_underlying hu,goInt,Go.MapKept.run_getObj_map h3,h4]
  ·cases hev
 ·rename_i hm
  injection hev with hev
  injection hev with ev1 ev2
  subst ev1 ev2
  rw [hm] at hr
  have e1:a.eval x=.map none:=by
   generalize a.eval x=xv at hr
   cases hr
   rfl
  refine ⟨_,.int .i64 0,w,G,?_,.inl rfl,s,Goes.refl _ _ _,.int _ _ _⟩
  simp [execOp,ho,resolve,hc,KP,invoke,builtin,Builtin.len_,ht,e1,run_underlying hu,goInt]
 ·cases hev
end Go.Ab
