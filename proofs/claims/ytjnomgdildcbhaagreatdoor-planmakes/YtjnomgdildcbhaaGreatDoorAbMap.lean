/-
  Owned slices whose elements may lead to places; a box in which one cell's slice is not written any more.
-/
import Derived.Test.YtjnomgdildcbhaaGreatDoorAbUns
import Derived.MapKept
import Derived.WideKeyRuns
import Derived.WideLaws
set_option linter.all false
namespace Go.Ab
open Go.RowKit
variable{P:Program}{w:World}{G:Gm}{h:Heap}
theorem Gs{L:Loc->Prop}{a:Loc}{B:Blk}{t:TypeId}{sz:Nat}{es:List AV}(hB:vv w G L a B)(he:asV (some B)=some (t,sz,es)):Ya w G L a t sz es:=by
 cases B with
 |arv t' sz' es'=>
  simp only[asV,fS,afn]at he;obtain⟨rfl,rfl,rfl⟩:=he;exact hB
 |arr t' sz' vw es'=>
  cases vw with
  |true=>cases he
  |false=>
   simp only[asV,fS,afn]at he;obtain⟨rfl,rfl,rfl⟩:=he;obtain⟨h0,hd⟩:=hB;refine⟨h0,?_⟩;rcases hd with h1|⟨b,c,h1,h2,h3,h4,h5,h6,h7,h8⟩
   ·exact .inl h1
   ·exact .inr ⟨b,c,h1,h2,h3,h4,h5,h6,λi hi=>⟨(h7 i hi).1,λj hj=>⟨((h7 i hi).2 j hj).1,((h7 i hi).2 j hj).2.wider λ_ e=>e.elim⟩⟩,λo ho=>by have:=(h8 o ho).1;cases this⟩
 |_=>cases he
theorem MH{a:Loc}{t:TypeId}{sz:Nat}{es:List AV}(he:asV (hget h a)=some (t,sz,es)):∃B,hget h a=some B∧asV (some B)=some (t,sz,es):=by
 cases hb:hget h a with
 |none=>rw[hb]at he;cases he
 |some B=>rw[hb]at he;exact⟨B,rfl,he⟩
theorem I4(s:Sim w G h){p v:AV}{px vx:Value}(hp:aD w G (dom h) p px)(hv:aD w G (dom h) v vx)(hpos:0<v.cells.length){t:TypeId}{ag:Bool}
  (hsh:shapeOf P t=some (ag,v.cells.length)) {h':Heap} (hst:wT h p v=some h') :
  ∃w',(Instr.storeAt t px vx).run P w=.ok () w'∧Sim w' G h'∧Goes w G h w' G h':=by
 have hvc:=hv.dO hpos;have hvl:vx.cells.toList.length=v.cells.length:=by rw[afP];exact hvc.1
 unfold wT at hst;split at hst
 case h_2=>cases hst
 rename_i a n sz i o;split at hst
 case h_2=>cases hst
 rename_i tb s' es hb0;obtain⟨B0,hb,hbv⟩:=MH hb0;split at hst
 case isFalse=>cases hst
 rename_i c0;obtain⟨hn,rfl,Rz⟩:=c0;split at hst
 case h_2=>cases hst
 rename_i u hu;split at hst
 case h_2=>cases hst
 rename_i u' hu';injection hst with hst;subst hst
 obtain⟨hcells,hfit⟩:=pV hu' hpos;cases hp with
 |dN _ a n sz i o m b hLa hm hle hbk=>
  obtain⟨h0,hd⟩:=Gs (s.blk a _ hb) hbv;have hmn:m=n:=by rw[hm]at h0;injection h0 with h0;omega
  have hbk:=hbk hmn;have hlt:=(aft.1 hu).1;have hgd:es.getD i .top=u:=by simp[afk,hu]
  rcases hd with⟨h1,h2⟩|⟨b',c,h1,h2,h3,h4,h5,h6,h7,h8⟩
  ·rw[hbk]at h1;cases h1
  ·rw[hbk]at h1;injection h1 with h1;subst h1
   have hul:u.cells.length=sz:=by have:=(h7 i hlt).1;rwa[hgd]at this
   have hcap:i*sz+sz<=c.size:=by
    rw[h3];have:(i+1)*sz<=G.cap a*sz:=afK _ (by omega);rwa[afQ,age]at this
   have hrun:=gY (P:=P) (k:=i*sz+o) hvc h2 (by omega) hsh rfl;have hw:∀k,k≠b->(w.setRow b (c.toList.take (i*sz+o)++vx.cells.toList++c.toList.drop (i*sz+o+v.cells.length)).toArray).heap[k]?=w.heap[k]?:=λk hk=>setRow_other w b k _ hk
   have hI:aW w G (w.setRow b (c.toList.take (i*sz+o)++vx.cells.toList++c.toList.drop (i*sz+o+v.cells.length)).toArray) G:=λk q hi=>by
    refine⟨hi,agf (hw k λe=>?_)⟩;subst e;exact h8 q hi
   have hA:∀a,Agree G G a:=Agree.refl G;refine⟨_,by simpa[Instr.storeAt,Instr.sureAddr]using hrun,s.update hLa (by simp) (λk _ hk=>hw k λe=>hk (by rw[e];exact hbk)) (λ_ _=>⟨rfl,rfl,rfl⟩) (hA a) hI (λ_ _ hi=>.inl hi) (λ_ hk=>.inl hk) ?_,
    Goes.update hLa rfl rfl rfl (by simp) (λk _ hk=>hw k λe=>hk (by rw[e];exact hbk)) (λ_ _=>⟨rfl,rfl,rfl⟩) (hA a) hI (λ_ hk=>.inl hk) (λ_ _ hk=>.inl hk)⟩
   refine⟨by rw[afY];exact h0,.inr ⟨b,_,hbk,pW h2 _,?_,h4,by rw[afY];exact h5,h6,λi' hi'=>?_,λq hq=>h8 q hq⟩⟩
   ·simp only[af8];rw[fM _ _ _ _ hvl (by have:=afP (xs:=c);omega),afP (xs:=c)];exact h3
   ·rw[afY]at hi';have hg':(es.set i u').getD i' .top=if i=i' then u' else es.getD i' .top:=by
     simp only[afk,agS];by_cases e:i=i'
     ·simp[e,hi']
     ·simp[e]
    have Yb:u'.cells.length=sz:=by rw[hcells,fM _ _ _ _ rfl hfit,hul]
    refine⟨?_,λj hj=>?_⟩
    ·rw[hg'];split
     ·exact Yb
     ·exact (h7 i' hi').1
    ·rw[jk,gz _ _ _ _ _ _ hvl (by have:=afP (xs:=c);omega),hg'];by_cases e:i=i'
     ·subst e;rw[if_pos rfl,hcells,gz _ _ _ _ _ _ rfl hfit];by_cases cc:o<=j∧j<o+v.cells.length
      ·rw[if_pos cc,if_pos (by omega),getD_toList];obtain⟨k1,k2⟩:=hvc.2 (j-o) (by omega);rw[show i*sz+j-(i*sz+o)=j-o by omega];refine⟨k1,k2.goes hI (p:=λq=>decide (q.1<=a.1)) ?_ λq hq hpq=>⟨⟨by simpa using hpq,(bI h a q _).2 hq⟩,hA q⟩⟩;exact kF Rz (by omega)
      ·rw[if_neg cc,if_neg (by omega),getD_toList];obtain⟨k1,k2⟩:=(h7 i hi').2 j hj;rw[hgd]at k2;exact⟨k1,k2.mono hI λq hq=>⟨⟨hq.1,(bI h a q _).2 hq.2⟩,hA q⟩⟩
     ·rw[if_neg e];have hout:¬ (i*sz+o<=i'*sz+j∧i'*sz+j<i*sz+o+v.cells.length):=by
       rintro⟨q1,q2⟩;rcases agR e with q|q
       ·have:(i+1)*sz<=i'*sz:=afK _ q;rw[afQ,age]at this;omega
       ·have:(i'+1)*sz<=i*sz:=afK _ q;rw[afQ,age]at this;omega
      rw[if_neg hout,getD_toList];obtain⟨k1,k2⟩:=(h7 i' hi').2 j hj;exact⟨k1,k2.mono hI λq hq=>⟨⟨hq.1,(bI h a q _).2 hq.2⟩,hA q⟩⟩
theorem acp(s:Sim w G h)(hn:h≠[]){e:Env}{a:Act}(he:aF w G (dom h) e a){o:Oper}{t:TypeId}{A X:Operand}{A' X':Opd}{ag:Bool}{sz:Nat}(ho:o.op=.store t A X)
  (hA:aS A=some A') (hX:aS X=some X') (hsh:shapeOf P t=some (ag,sz)) (hsz:0<sz) {K:Cfg} {O:Orc} {v:AV} {h':Heap}
  (hev:evM K O (.stV sz A' X') e h=some (.val v h')):cQ P w G h a o v h':=by
 have hrX:=aG he hX;have hrA:=aG he hA;simp only[evM]at hev;split at hev
 ·rename_i hl;split at hev
  ·rename_i h2 hst;injection hev with hev
   injection hev with e1 e2
   subst e1;subst e2;obtain⟨w',l1,l2,l3⟩:=I4 (P:=P) (t:=t) (ag:=ag) s hrA hrX (by omega) (by rw[hl];exact hsh) hst;exact⟨.skip,undef,w',G,by simp[execOp,ho,l1],.inr ⟨rfl,rfl⟩,l2,l3,.tup _ _ _ rfl λi hi=>by simp at hi⟩
  ·cases hev
 ·cases hev
theorem MI{a:Act}{o:Oper}{r:Option Out}(hr:∀v h',r=some (.val v h')->cQ P w G h a o v h'){v:AV}{h':Heap}(hev:toV r=some (.val v h')):cQ P w G h a o v h':=by
 unfold toV at hev;split at hev
 case h_2=>cases hev
 rename_i la n h1;split at hev
 case h_2=>cases hev
 rename_i t sz es hb;split at hev
 case isFalse=>cases hev
 rename_i cc;injection hev with hev
 injection hev with e1 e2
 subst e1;subst e2;obtain⟨nx,x,w',G',k1,k2,k3,k4,k5⟩:=hr _ _ rfl;have hda:=gL hb;have hg:=Goes.update (w:=w') (w':=w') (G:=G') (G':=G') (B:=.arv t sz es) hda rfl rfl rfl (afm _) (λ_ _ _=>rfl) (λ_ _=>⟨rfl,rfl,rfl⟩) (Agree.refl G' la) (aW.refl w' G') (λ_ hk=>.inl hk) (λ_ _ hk=>.inl hk);have hV:=Gs (k3.blk la _ hb) rfl;refine⟨nx,x,w',G',k1,k2,k3.update hda (afm _) (λ_ _ _=>rfl) (λ_ _=>⟨rfl,rfl,rfl⟩) (Agree.refl G' la) (aW.refl w' G') (λ_ _ hk=>.inl hk) (λ_ hk=>.inl hk) ?_,k4.trans hg,k5.along hg⟩;exact vv.kept (B:=.arv t sz es) hV (aW.refl w' G') (λq hq=>⟨⟨hq.1,(bI _ _ _ _).2 hq.2⟩,Agree.refl G' q⟩) ⟨rfl,rfl,rfl⟩ (λ_ _=>rfl) (λ_ _ _ hi=>hi) λ_ _ hx=>⟨hx,rfl,λ_ hi=>hi⟩
theorem XV(s:Sim w G h)(hn:h≠[]){e:Env}{a:Act}(he:aF w G (dom h) e a){o:Oper}{t el:TypeId}{i:TypeInfo}{z:AV}{l c:Operand}{l' c':Opd}(ho:o.op=.makeSlice t l c)
  (hu:P.underlying t=some (.slice el)) (hi:P.info? el=some i) (hz:zeroOf P el=some z) (hsz:0<i.size) (hl:aS l=some l') (hc:aS c=some c')
  {K:Cfg} {O:Orc} {v:AV} {h':Heap} (hev:evM K O (.XO el i.size i.bytes z l' c') e h=some (.val v h')):cQ P w G h a o v h':=by
 simp only[evM]at hev;split at hev
 ·rename_i kl n kc m hL hC;split at hev
  ·rename_i cc;refine MI (λv h1 h2=>?_) hev;refine Ro s hn he ho hu hi hz hsz hl hc (K:=K) (O:=O) ?_;simp only[evM,hL,hC,if_pos cc];exact h2
  ·cases hev
 ·cases hev
theorem XZ(s:Sim w G h)(hn:h≠[]){e:Env}{a:Act}(he:aF w G (dom h) e a){o:Oper}{c:Call}{t el:TypeId}{i:TypeInfo}{z:AV}{S X:Operand}{S' X':Opd}
  (ho:o.op=.call c) (hc:c.callee=.builtin .append) (hargs:c.args.toList=[S,X]) (hS:aS S=some S') (hX:aS X=some X') (ht0:c.argTypes[0]?=some t) (ht1:c.argTypes[1]?=some t)
  (hu:P.underlying t=some (.slice el)) (hi:P.info? el=some i) (hz:zeroOf P el=some z) (hsz:0<i.size)
  {K:Cfg} {O:Orc} {v:AV} {h':Heap} (hev:evM K O (.XP el i.size i.bytes S' X') e h=some (.val v h')):cQ P w G h a o v h':=by
 have hrX:=aG he hX;have hrS:=aG he hS;obtain⟨i',zv,hi',hzv,hzz,hzl⟩:=cY hz;rw[hi]at hi';injection hi' with hi';subst hi'
 have hzr:aD w G (dom h) z zv:=by rw[hzz];exact fD zv
 have hzs:zv.cells.size=i.size:=by rw[(hzr.dO (by omega)).1,hzl]
 simp only[evM]at hev;cases hel:dW (X'.ev e) h with
 |none=>simp[hel]at hev
 |some news=>
  simp only[hel]at hev;split at hev
  case isFalse=>cases hev
  rename_i hsd;unfold CY at hev;split at hev
  ·rename_i la n hSv;rw[hSv]at hrS;split at hev
   case h_2=>cases hev
   rename_i t' sz' es hb0;obtain⟨B0,hb,hbv⟩:=MH hb0;split at hev
   case isFalse=>cases hev
   rename_i cc;obtain⟨c1,c4,rfl,rfl,c2,c3,c5⟩:=cc;injection hev with hev
   injection hev with zu zw
   subst zu;subst zw;subst c1;obtain⟨p,kc,flat,hxv,hfl,hpn,hcell⟩:=Bb s hrX hel hsz hsd;obtain⟨h0,hd⟩:=Gs (s.blk la _ hb) hbv;obtain⟨b,cs,q1,q2,q3,q5,q6,q7,q8⟩:∃b cs,G.blk la=some b∧w.heap[b]?=some (.cells cs t' (0,0))∧cs.size=G.cap la*i.size∧es.length<=G.cap la∧G.cap la<=maxLen ∧
     (∀j,j<es.length->(es.getD j .top).cells.length=i.size∧∀l,l<i.size->(cs.getD (j*i.size+l) undef).oneCell'=true∧aD w G (mR h la.1) ((es.getD j .top).cells.getD l .top) (cs.getD (j*i.size+l) undef))∧(∀o,¬ G.imm b o):=by
    rcases hd with⟨_,h2⟩|⟨b2,c,h1,h2,h3,_,h5,h6,h7,h8⟩
    ·rw[h2]at c4;simp at c4
    ·exact⟨b2,c,h1,h2,h3,h5,h6,h7,h8⟩
   obtain⟨hsx,hLa⟩:a.eval S=.slice (some ⟨b,0,none⟩) es.length (G.cap la)∧dom h la:=by
    generalize a.eval S=x at hrS;cases hrS with
    |own _ _ _ m2 _ hL hm2 _ _ hx=>
     rw[h0]at hm2;injection hm2 with hm2
     refine⟨?_,hL⟩;rw[hx hm2.symm];unfold dD;rw[q1]
   have acI:es.length*i.size<=cs.size:=by rw[q3];exact afK _ q5
   have hxl:(cs.toList.take (es.length*i.size)).length=es.length*i.size:=by simp;omega
   obtain⟨ad,rfl⟩:∃ad,p=some ad:=by
    cases p with
    |none=>rw[hpn rfl]at c5;simp at c5
    |some ad=>exact⟨ad,rfl⟩
   obtain⟨w',g,cap,cur,hrun,hout⟩:=Gu (P:=P) (w:=w) (ty:=o.type) hu hi hzv hzs hsz (v:=.slice (some ⟨b,0,none⟩) es.length (G.cap la)) (n:=es.length) hxl
    (.inr (.inr ⟨b,G.cap la,cs,rfl,q2,q3,q5,q6,rfl⟩)) hfl.len (λj u hj=>by
     obtain⟨ad',e1,e2⟩:=hcell j u hj;injection e1 with e1;subst e1
     exact e2) hfl.one c5 (k:=kc) c2 c3
   have hob:∀r,(match Value.slice (some ⟨b,0,none⟩) es.length (G.cap la) with|.slice (some p) _ (_+1)=>some p.block|_=>none)=some r->r=b:=λr hr=>by
    split at hr
    ·rename_i hsl;injection hsl with e1 _ _
     injection e1 with e1
     injection hr with hr
     rw[<-hr,<-e1]
    ·cases hr
   have hgw:g=b∨w.heap.size<=g:=hout.which.imp (hob g) id;have I5:∀r q,G.imm r q->r≠g:=λr q hq e=>by
    subst e;rcases hgw with e1|e1
    ·rw[e1]at hq;exact q8 q hq
    ·have:=s.imm _ _ hq;omega
   have hI:aW w G w' (G.at_ la (some g) (some (es.length+news.length)) cap):=λr q hq=>⟨hq,agf (hout.other r (s.imm r q hq) (I5 r q hq))⟩
   have hG:∀a',a'≠la->(G.at_ la (some g) (some (es.length+news.length)) cap).blk a'=G.blk a'∧(G.at_ la (some g) (some (es.length+news.length)) cap).len a'=G.len a' ∧
     (G.at_ la (some g) (some (es.length+news.length)) cap).cap a'=G.cap a':=λa' e=>by simp[Gm.at_,e]
   have hAg:Agree G (G.at_ la (some g) (some (es.length+news.length)) cap) la:=.inr ⟨es.length,es.length+news.length,h0,by simp[Gm.at_],by omega⟩;have aeP:∀q,Agree G (G.at_ la (some g) (some (es.length+news.length)) cap) q:=λq=>by
    by_cases e:q=la
    ·rw[e];exact hAg
    ·exact .inl (hG q e)
   have hbl:∀r,r<w.heap.size->G.blk la≠some r->w'.heap[r]?=w.heap[r]?:=λr hr1 hr2=>by
    refine hout.other r hr1 λe=>?_
    subst e;rcases hgw with e1|e1
    ·exact hr2 (by rw[q1,e1])
    ·omega
   have hnw:∀r,(G.at_ la (some g) (some (es.length+news.length)) cap).blk la=some r->G.blk la=some r∨w.heap.size<=r:=λr hr=>by
    have:g=r:=by simpa[Gm.at_]using hr
    subst this;rcases hgw with e1|e1
    ·exact .inl (by rw[q1,e1])
    ·exact .inr e1
   have hgo:=Goes.update (B:=.arv t' i.size (es++news)) hLa hout.os hout.tape hout.output hout.size hbl hG hAg hI hnw (λ_ _ hk=>.inl hk);have hA:c.args=#[S,X]:=by rw[<-Array.toArray_toList (xs:=c.args),hargs]
   refine⟨.value (.slice (some ⟨g,0,none⟩) (es.length+news.length) cap),.slice (some ⟨g,0,none⟩) (es.length+news.length) cap,w',_,?_,.inl rfl,
    s.update hLa hout.size hbl hG hAg hI (λ_ _ hk=>.inl hk) hnw ?_,hgo,?_⟩
   ·have e1:Builtin.append_ c.argTypes o.type #[a.eval S,a.eval X]=Builtin.append_ #[t,t] o.type #[a.eval S,a.eval X]:=by
     unfold Builtin.append_;simp only[ht0,ht1];rfl
    rw[<-hsx,<-hxv]at hrun;simp only[execOp,ho,resolve,hc,hA,agv,afj,afw,afs,afV,afI,invoke,builtin,e1,hrun]
   ·refine⟨by simp[Gm.at_],.inr ⟨g,cur,by simp[Gm.at_],hout.here,by simpa[Gm.at_]using hout.rows,hsz,by simpa[Gm.at_]using hout.fits,by simpa[Gm.at_]using hout.most,λj hj=>?_,λq hk=>absurd rfl (I5 g q hk)⟩⟩;rw[afr]at hj;have Vm:∀J,J<(es.length+news.length)*i.size->cur.getD J undef=(cs.toList.take (es.length*i.size)++flat).getD J undef:=λJ hJ=>by
     rw[<-getD_toList undef cur,<-oJ undef cur.toList ((es.length+news.length)*i.size) _ hJ,hout.take]
    by_cases hj1:j<es.length
    ·have e6:(es++news).getD j .top=es.getD j .top:=by simp only[afk];rw[afF hj1]
     rw[e6];refine⟨(q7 j hj1).1,λl hl=>?_⟩;have hJ:j*i.size+l<es.length*i.size:=fJ hj1 hl;have e7:cur.getD (j*i.size+l) undef=cs.getD (j*i.size+l) undef:=by
      rw[Vm _ (by rw[afQ];omega)];simp only[afk];rw[afF (by rw[hxl];exact hJ),af2 hJ];simp[afx]
     rw[e7];exact⟨((q7 j hj1).2 l hl).1,((q7 j hj1).2 l hl).2.mono hI λq hq=>⟨⟨hq.1,(bI h la q _).2 hq.2⟩,aeP q⟩⟩
    ·have e6:(es++news).getD j .top=news.getD (j-es.length) .top:=by simp only[afk];rw[afT (by omega)]
     rw[e6];refine⟨hfl.sized _ (by omega),λl hl=>?_⟩;have hge:es.length*i.size<=j*i.size:=afK _ (by omega);have hJ:(j-es.length)*i.size+l<news.length*i.size:=fJ (by omega) hl;have e7:cur.getD (j*i.size+l) undef=flat.getD ((j-es.length)*i.size+l) undef:=by
      rw[Vm _ (fJ hj hl)];simp only[afk];rw[afT (by rw[hxl];omega),hxl,Nat.sub_mul]
      congr 2
      omega
     rw[e7];refine⟨hfl.one _ ?_,(hfl.rel _ l (by omega) hl).mono hI λ_ e=>e.elim⟩;rw[afk,afD (by rw[hfl.len];exact hJ)];exact agT _
   ·refine .own _ la _ (es.length+news.length) _ ((bI h la la _).2 hLa) (by simp[Gm.at_]) (afm _) (.inr ⟨g,cap,rfl⟩) λ_=>?_
    simp[dD,Gm.at_]
  ·rename_i hSv;refine MI (λv h1 h2=>?_) hev;refine Rp s hn he ho hc hargs hS hX ht0 ht1 hu hi hz hsz (K:=K) (O:=O) ?_;simp only[evM,hel,if_pos hsd,hSv];exact h2
  ·cases hev
theorem XR(s:Sim w G h)(hn:h≠[]){e:Env}{a:Act}(he:aF w G (dom h) e a){o:Oper}{t:TypeId}{x:Operand}{y:Opd}{sz:Nat}(ho:o.op=.box t x)(hx:aS x=some y)(k:Nat)(hsz:0<sz)
  {K:Cfg} {O:Orc} {v:AV} {h':Heap} (hev:evM K O (.XN t sz k y) e h=some (.val v h')):cQ P w G h a o v h':=by
 have hr:=aG he hx;simp only[evM]at hev;split at hev
 case isFalse=>cases hev
 split at hev
 case h_2=>cases hev
 rename_i u h1 hu;split at hev
 case isFalse=>cases hev
 rename_i hl;injection hev with hev
 injection hev with e1 e2
 subst e1;subst e2;have key:∃G',Sim w G' h1∧Goes w G h w G' h1∧aD w G' (dom h1) u (a.eval x):=by
  generalize a.eval x=X at hr;unfold Ri at hu;split at hu
  case h_2=>cases hu
  rename_i cs hye;rw[hye]at hr;split at hu
  case h_2=>cases hu
  rename_i c hc;split at hu
  case h_2=>cases hu
  rename_i c' h2 hv;injection hu with hu
  injection hu with e1 e2
  subst e1;subst e2;obtain⟨vs,rfl,l1,l2,l3⟩:=iI hr;have hlt:k<cs.length:=(aft.1 hc).1;obtain⟨G',k1,k2,k3⟩:=mS c s (by have:=l3 k hlt;rwa[show cs.getD k .top=c by simp[afk,hc]]at this) hv;refine⟨G',k1,k2,.agg _ _ _ (by simp;omega) (λi hi=>l2 i (by simpa using hi)) λi hi=>?_⟩;simp only[afY]at hi;by_cases hik:k=i
  ·subst hik;rw[show (cs.set k c').getD k .top=c' by simp[afk,hlt]];exact k3
  ·rw[show (cs.set k c').getD i .top=cs.getD i .top by simp[afk,hik]];exact (l3 i hi).along k2
 obtain⟨G',k1,k2,k4⟩:=key;have hne:h1≠[]:=λe0=>by
  have:=k2.depth;rw[e0]at this;cases h<;>simp_all
 obtain⟨l1,l2,l3⟩:=tq k1 hne (k4.dO (by omega)) t;refine⟨_,_,_,_,?_,.inl rfl,l1,k2.trans l2,l3⟩;simp[execOp,ho,Instr.box,newVar,newRow]
end Go.Ab
namespace Go.Ab
open Go.RowKit Go.MapKept
variable{P:Program}{w:World}{G:Gm}{h:Heap}{L:Loc->Prop}
theorem RA{k:FK}{a b:AV}(h:eqF k a b=some true):a=b:=by
 cases k<;>cases a<;>cases b<;>simp[eqF]at h
 ·rw[h]
 ·rw[h.1,h.2]
 ·rw[h]
theorem MJ:∀{ks:List FK} {as bs:List AV},dZ ks as bs=some true->as=bs
 | [],[],[],_=>rfl
 | [],[],_::_,h=>by simp[dZ]at h
 | [],_::_,_,h=>by simp[dZ]at h
 |_::_,[],_,h=>by simp[dZ]at h
 |_::_,_::_,[],h=>by simp[dZ]at h
 |k::ks,a::as,b::bs,h=>by
  simp only[dZ]at h;split at h
  ·rename_i p q h1 h2;injection h with h
   simp only[afC]at h;obtain⟨rfl,rfl⟩:=h;rw[RA h1,MJ h2]
  ·cases h
theorem Yc{kk:KK}{a b:AV}(h:eqK kk a b=some true):a=b:=by
 unfold eqK at h;split at h
 ·exact RA h
 ·rw[MJ h]
 ·cases h
theorem MK{k:FK}{a b:AV}{r:Bool}(h:eqF k a b=some r){x y:Value}(hx:aD w G L a x){L':Loc->Prop}(hy:aD w G L' a y):x=y:=by
 cases k<;>cases a<;>simp[eqF]at h
 ·rw[cm hx,cm hy]
 ·rw[aU hx,aU hy]
 ·rw[cJ hx,cJ hy]
theorem Gv:∀{ks:List FK} {as bs:List AV} {r:Bool},dZ ks as bs=some r->∀i,i<as.length->∃k q,eqF k (as.getD i .top) (bs.getD i .top)=some q
 | [],[],[],_,_,i,hi=>by simp at hi
 | [],[],_::_,_,h,_,_=>by simp[dZ]at h
 | [],_::_,_,_,h,_,_=>by simp[dZ]at h
 |_::_,[],_,_,h,_,_=>by simp[dZ]at h
 |_::_,_::_,[],_,h,_,_=>by simp[dZ]at h
 |k::ks,a::as,b::bs,r,h,i,hi=>by
  simp only[dZ]at h;split at h
  ·rename_i p q h1 h2;cases i with
   |zero=>exact⟨k,p,by simpa using h1⟩
   |succ i=>simpa using Gv h2 i (by simpa using hi)
  ·cases h
theorem Ux{kk:KK}{a b:AV}{r:Bool}(h:eqK kk a b=some r){x y:Value}(hx:aD w G L a x){L':Loc->Prop}(hy:aD w G L' a y):x=y:=by
 unfold eqK at h;split at h
 ·exact MK h hx hy
 ·rename_i ks as bs;cases hx with
  |agg _ _ xs l1 o1 h1=>
   cases hy with
   |agg _ _ ys l2 o2 h2=>
    congr 1
    refine Array.ext (by omega) λi hi1 hi2=>?_
    obtain⟨k,q,hk⟩:=Gv h i (by omega);have e1:=h1 i (by omega);have e2:=h2 i (by omega);rw[afx,afW hi1]at e1;rw[afx,afW hi2]at e2;exact MK hk e1 e2
 ·cases h
theorem I6{k:FK}{a b:AV}{r:Bool}(h:eqF k a b=some r):a.aO (λ_=>false)=true:=by
 cases k<;>cases a<;>simp[eqF]at h<;>rfl
theorem EU:∀{ks:List FK} {as bs:List AV} {r:Bool},dZ ks as bs=some r->AV.cD (λ_=>false) as=true
 | [],[],[],_,_=>rfl
 | [],[],_::_,_,h=>by simp[dZ]at h
 | [],_::_,_,_,h=>by simp[dZ]at h
 |_::_,[],_,_,h=>by simp[dZ]at h
 |_::_,_::_,[],_,h=>by simp[dZ]at h
 |k::ks,a::as,b::bs,r,h=>by
  simp only[dZ]at h;split at h
  ·rename_i p q h1 h2;simp only[AV.cD,afC];exact⟨I6 h1,EU h2⟩
  ·cases h
theorem I7{kk:KK}{a b:AV}{r:Bool}(h:eqK kk a b=some r):a.pure=true:=by
 unfold eqK at h;split at h
 ·exact I6 h
 ·exact EU h
 ·cases h
def iL(kk:KK)(k:AV):List (AV×AV)->Option (Option Nat)
 | []=>some none
 |(a,_)::r=>match eqK kk k a with
  |some true=>some (some 0)
  |some false=>(iL kk k r).map (·.map (·+1))
  |none=>none
theorem Gw{kk:KK}{k:AV}:∀{es:List (AV×AV)} {r:Option AV},gI kk k es=some r->(r=none∧iL kk k es=some none)∨∃i a v,r=some v∧iL kk k es=some (some i)∧es[i]?=some (a,v)
 | [],r,h=>by simp only[gI,fS]at h;exact .inl ⟨h.symm,rfl⟩
 |(a,v)::es,r,h=>by
  simp only[gI]at h;split at h
  ·rename_i he;injection h with h
   exact .inr ⟨0,a,v,h.symm,by simp[iL,he],rfl⟩
  ·rename_i he;rcases Gw h with⟨h1,h2⟩|⟨i,b,u,h1,h2,h3⟩
   ·exact .inl ⟨h1,by simp[iL,he,h2]⟩
   ·exact .inr ⟨i+1,b,u,h1,by simp[iL,he,h2],by simpa using h3⟩
  ·cases h
theorem RB{kk:KK}{k v:AV}:∀{es es':List (AV×AV)},uS kk k v es=some es'->(iL kk k es=some none∧es'=es++[(k,v)])∨∃i a u,iL kk k es=some (some i)∧es[i]?=some (a,u)∧es'=es.set i (a,v)∧eqK kk k a=some true
 | [],es',h=>by simp only[uS,fS]at h;exact .inl ⟨rfl,h.symm⟩
 |(a,u)::es,es',h=>by
  simp only[uS]at h;split at h
  ·rename_i he;injection h with h
   exact .inr ⟨0,a,u,by simp[iL,he],rfl,h.symm,he⟩
  ·rename_i he;split at h
   ·rename_i r hr;injection h with h
    subst h;rcases RB hr with⟨h1,h2⟩|⟨i,b,x,h1,h2,h3,h4⟩
    ·exact .inl ⟨by simp[iL,he,h1],by simp[h2]⟩
    ·exact .inr ⟨i+1,b,x,by simp[iL,he,h1],by simpa using h2,by simp[h3],h4⟩
   ·cases h
  ·cases h
theorem Db{k:FK}{t:TypeId}{d:TypeDesc}(hu:P.underlying t=some d)(hk:wZ P t=some k){a b:AV}{x y:Value}(ha:aD w G L a x){L':Loc->Prop}(hb:aD w G L' b y){r:Bool}(he:eqF k a b=some r) :
  Instr.sameNow d x y=some r:=by
 unfold wZ at hk;rw[hu]at hk;cases k with
 |bool=>
  cases a<;>cases b<;>simp[eqF]at he
  have e1:=cm ha;have e2:=cm hb;subst e1 e2;split at hk<;>simp at hk
  rename_i hd;injection hd with hd
  subst hd;rw[<-he];rename_i p q _;cases p<;>cases q<;>rfl
 |int=>
  cases a<;>cases b<;>simp[eqF]at he
  obtain⟨rfl,he⟩:=he;have e1:=aU ha;have e2:=aU hb;subst e1 e2;split at hk<;>simp at hk
  rename_i hd;injection hd with hd
  subst hd;simp only[Instr.sameNow,if_true,<-he];rfl
 |str=>
  cases a<;>cases b<;>simp[eqF]at he
  have e1:=cJ ha;have e2:=cJ hb;subst e1 e2;split at hk<;>simp at hk
  rename_i hd;injection hd with hd
  subst hd;simp only[Instr.sameNow,<-he]
  congr 1
  rw[agt,bytes_beq];simp
def Kt(w:World)(G:Gm)(L:Loc->Prop)(es:List (AV×AV))(l:List MapEntry):Prop:=
 l.length=es.length∧∀i,i<es.length->aD w G bM (es.getD i (.top,.top)).1 (l.getD i default).key∧aD w G L (es.getD i (.top,.top)).2 (l.getD i default).val
theorem Kt.tail{e:AV×AV}{es:List (AV×AV)}{m:MapEntry}{l:List MapEntry}(hr:Kt w G L (e::es) (m::l)):Kt w G L es l:=
 ⟨by simpa using hr.1,λi hi=>by simpa using hr.2 (i+1) (by simpa using hi)⟩
theorem Dc{k:FK}{t:TypeId}{d:TypeDesc}(hu:P.underlying t=some d)(hk:wZ P t=some k){kv:AV}{x:Value}(hx:aD w G L kv x){L':Loc->Prop}:∀{es:List (AV×AV)} {l:List MapEntry} {r:Option Nat} (n:Nat),Kt w G L' es l ->
  iL (.one k) kv es=some r->Instr.findNow d x l n=some (r.map λi=>(n+i,(l.getD i default).val))
 | [],l,r,n,hr,hf=>by
  have:l=[]:=afJ (by simpa using hr.1);subst this;simp only[iL,fS]at hf;subst hf;rfl
 |(a,v)::es,[],r,n,hr,hf=>by simpa using hr.1
 |(a,v)::es,m::l,r,n,hr,hf=>by
  have h0:=(hr.2 0 (by simp)).1;simp only[af6]at h0;simp only[iL,eqK]at hf;split at hf
  ·rename_i he;injection hf with hf
   subst hf;simp[Instr.findNow,Db hu hk hx h0 he]
  ·rename_i he;cases hq:iL (.one k) kv es with
   |none=>rw[hq]at hf;cases hf
   |some q=>
    rw[hq]at hf;injection hf with hf
    subst hf;have ih:=Dc hu hk hx (n+1) hr.tail hq;simp only[Instr.findNow,Db hu hk hx h0 he,ih];cases q with
    |none=>rfl
    |some i=>simp;omega
  ·cases hf
theorem Dd{t:TypeId}{ks:List FK}(hf:pY P t=some ks){as bs:List AV}{x y:Value}(hx:aD w G L (.agg as) x)(hy:aD w G L (.agg bs) y){r:Bool}(h3:dZ ks as bs=some r):(Op.equal t x y).run P w=.ok r w:=by
 unfold pY at hf;split at hf
 ·rename_i fs hu;split at hf
  ·rename_i hc;obtain⟨hsi,hgt⟩:=hc;cases hx with
   |agg L as xs al ao ah=>
    cases hy with
    |agg L bs ys bl bo bh=>
     have hP:P.fieldsOf t=fs:=by unfold Program.fieldsOf;rw[hu]
     have hu2:P.underlying t=some (.struct (P.fieldsOf t)):=by rw[hP];exact hu
     have key:∀d,(Op.equalIn (d+1+1) t (.agg xs) (.agg ys)).run P w=.ok r w:=λd=>by
      rw[run_equalIn_struct w (d+1) t xs ys hu2 hsi,hP];exact De d ⟨al,λi hi=>⟨ao i hi,ah i hi⟩⟩ ⟨bl,λi hi=>⟨bo i hi,bh i hi⟩⟩ fs.toList 0 ks r hf h3
     exact key 9998
  ·cases hf
 ·cases hf
theorem Ku{ks:List FK}{a b:AV}{r:Bool}(h:eqK (.st ks) a b=some r):∃as bs,a=.agg as∧b=.agg bs∧dZ ks as bs=some r:=by
 cases a<;>simp[eqK]at h
 cases b<;>simp at h
 exact⟨_,_,rfl,rfl,h⟩
theorem Df{ks:List FK}{t:TypeId}(hf:pY P t=some ks){kv:AV}{x:Value}(hx:aD w G L kv x)(hp:kv.pure=true){L':Loc->Prop}:∀{es:List (AV×AV)} {l:List MapEntry} {r:Option Nat} (n:Nat),Kt w G L' es l ->
  iL (.st ks) kv es=some r->(Instr.findAsking t x l n).run P w=.ok (r.map λi=>(n+i,(l.getD i default).val)) w
 | [],l,r,n,hr,hi=>by
  have:l=[]:=afJ (by simpa using hr.1);subst this;simp only[iL,fS]at hi;subst hi;rfl
 |(a,v)::es,[],r,n,hr,hi=>by simpa using hr.1
 |(a,v)::es,m::l,r,n,hr,hi=>by
  have h0:=(hr.2 0 (by simp)).1;simp only[af6]at h0;simp only[iL]at hi;split at hi
  ·rename_i he;injection hi with hi
   subst hi;obtain⟨as,bs,rfl,rfl,h3⟩:=Ku he;have k:=Dd hf (hx.I8 hp (L':=bM)) h0 h3;simp[Instr.findAsking,k]
  ·rename_i he;cases hq:iL (.st ks) kv es with
   |none=>rw[hq]at hi;cases hi
   |some q=>
    rw[hq]at hi;injection hi with hi
    subst hi;have ih:=Df hf hx hp (n+1) hr.tail hq;obtain⟨as,bs,rfl,rfl,h3⟩:=Ku he;have k:=Dd hf (hx.I8 hp (L':=bM)) h0 h3;simp only[Instr.findAsking,afs,k,afI,afA,if_false,ih];cases q with
    |none=>rfl
    |some i=>simp;omega
  ·cases hi
theorem find_ok{kk:KK}{t:TypeId}(hk:Gx P t=some kk){kv:AV}{x:Value}(hx:aD w G L kv x)(hp:kv.pure=true){L':Loc->Prop}{es:List (AV×AV)}{l:List MapEntry}{r:Option Nat}(hr:Kt w G L' es l)
  (hf:iL kk kv es=some r):(Instr.findKey t x l).run P w=.ok (r.map λi=>(i,(l.getD i default).val)) w:=by
 unfold Gx at hk;split at hk
 ·rename_i k RD;split at hk
  ·rename_i hsh;injection hk with hk
   subst hk;obtain⟨d,i,hu,_⟩:=iJ hsh;have:=Dc hu RD hx 0 hr hf;simp only[afu]at this;exact run_findKey hu this
  ·cases hk
 ·split at hk
  ·rename_i ks hfl;injection hk with hk
   subst hk;have hw:(match P.underlying t with|some (.array _ _)|some (.struct _)=>true|_=>false)=true:=by
    unfold pY at hfl;split at hfl
    ·rename_i fs hu;rw[hu]
    ·cases hfl
   have:=Df hfl hx hp 0 hr hf;simp only[afu]at this;rw[run_findKey_eq w hw x l];exact this
  ·cases hk
theorem EW{k:FK}{t:TypeId}(hk:wZ P t=some k){a b:AV}{x:Value}(ha:aD w G L a x){r:Bool}(he:eqF k a b=some r)(em:Bool)(n:Nat):(Instr.checkKey em (n+1) t x).run P w=.ok () w:=by
 unfold wZ at hk;cases k with
 |bool=>
  cases a<;>simp[eqF]at he
  have e1:=cm ha;subst e1;split at hk<;>simp at hk
  rename_i hu;simp[Instr.checkKey,run_underlying hu]
 |int=>
  cases a<;>simp[eqF]at he
  have e1:=aU ha;subst e1;split at hk<;>simp at hk
  rename_i hu;simp[Instr.checkKey,run_underlying hu]
 |str=>
  cases a<;>simp[eqF]at he
  have e1:=cJ ha;subst e1;split at hk<;>simp at hk
  rename_i hu;simp[Instr.checkKey,run_underlying hu]
theorem xd(em:Bool)(n:Nat){as bs:List AV}{xs:Array Value}(ha:dx w G L as xs):∀(fs:List Field) (i:Nat) (ks:List FK) (r:Bool),vA P i fs=some ks->dZ ks (as.drop i) (bs.drop i)=some r ->
  ∀ f ∈ fs, f.name ≠ "_" ∧ ∃ x, (part f.type xs f.offset).run P w = .ok x w ∧ (Instr.checkKey em (n + 1) f.type x).run P w = .ok () w
 | [],i,ks,r,hk,he=>by simp
 |f::fs,i,ks,r,hk,he=>by
  simp only[vA]at hk;split at hk
  ·rename_i hc;obtain⟨ho,hn,hsh⟩:=hc;split at hk
   ·rename_i k s h1 h2;injection hk with hk
    subst hk;cases h3:as.drop i with
    |nil=>simp[h3,dZ]at he
    |cons a as'=>
     cases h4:bs.drop i with
     |nil=>simp[h3,h4,dZ]at he
     |cons b bs'=>
      simp only[h3,h4,dZ]at he;split at he
      ·rename_i p q h5 h6;have ga:as[i]?=some a:=by
        have:(as.drop i)[0]?=some a:=by rw[h3];rfl
        simpa using this
       have da:as.drop (i+1)=as':=by
        have:(as.drop i).drop 1=as':=by rw[h3];rfl
        simpa using this
       have db:bs.drop (i+1)=bs':=by
        have:(bs.drop i).drop 1=bs':=by rw[h4];rfl
        simpa using this
       obtain⟨x,k1,k2⟩:=rW ha hsh (off:=i) (v:=a) (by simpa using ga);have k5:=EW h1 k2 h5 em n;have k6:=xd em n (bs:=bs) ha fs (i+1) s q h2 (by rw[da,db];exact h6);intro g hg;rcases afp.1 hg with rfl|hg
       ·exact⟨hn,x,by rw[ho];exact k1,k5⟩
       ·exact k6 g hg
      ·cases he
   ·cases hk
  ·cases hk
theorem I9{α:Type}{body:α->PUnit->Sem (ForInStep PUnit)}:∀{l:List α},(∀x∈l,(body x PUnit.unit).run P w=.ok (.yield PUnit.unit) w)->(forIn l PUnit.unit body).run P w=.ok PUnit.unit w
 | [],_=>by simp
 |x::l,h=>by
  simp only[List.forIn_cons,afs,h x (by simp),afI];exact I9 λy hy=>h y (by simp[hy])
theorem Dh{kk:KK}{t:TypeId}(hk:Gx P t=some kk){a b:AV}{x:Value}(hx:aD w G L a x){r:Bool}(he:eqK kk a b=some r)(em:Bool):(Instr.checkKey em 10000 t x).run P w=.ok () w:=by
 unfold Gx at hk;split at hk
 ·rename_i k RD;split at hk
  ·injection hk with hk
   subst hk;exact EW RD hx he em 9999
  ·cases hk
 ·split at hk
  ·rename_i ks hfl;injection hk with hk
   subst hk;obtain⟨as,bs,rfl,rfl,h3⟩:=Ku he;unfold pY at hfl;split at hfl
   ·rename_i fs hu;split at hfl
    ·cases hx with
     |agg L as xs al ao ah=>
      have:=xd (P:=P) em 9998 (bs:=bs) (xs:=xs) ⟨al,λi hi=>⟨ao i hi,ah i hi⟩⟩ fs.toList 0 ks r hfl h3;rw[show (10000:Nat)=9999+1 from rfl,Instr.checkKey];simp only[afs,run_underlying hu,afI];rw[<-Array.forIn_toList];rw[I9 λf hf=>?_]
      ·rfl
      ·obtain⟨hn,x,k1,k2⟩:=this f hf;simp[hn,k1,k2]
    ·cases hfl
   ·cases hfl
  ·cases hk
theorem Ja{k:FK}{a b:AV}{r:Bool}(he:eqF k a b=some r){x:Value}(ha:aD w G L a x)(n:Nat):Instr.sameBits n x x=true:=by
 cases k<;>cases a<;>simp[eqF]at he
 ·rw[cm ha];simp[Instr.sameBits]
 ·rw[aU ha];simp[Instr.sameBits]
 ·rw[cJ ha];simp[Instr.sameBits,bytes_beq]
theorem sK{α:Type}{p:α->α->Bool}:∀{l:List α},(∀x∈l,p x x=true)->(l.zip l).all (λ(x,y)=>p x y)=true
 | [],_=>rfl
 |x::l,h=>by
  simp only[List.zip_cons_cons,af9,afC];exact⟨h x (by simp),sK λy hy=>h y (by simp[hy])⟩
theorem Uy{kk:KK}{a b:AV}{r:Bool}(he:eqK kk a b=some r){x:Value}(ha:aD w G L a x)(n:Nat):Instr.sameBits (n+1) x x=true:=by
 unfold eqK at he;split at he
 ·exact Ja he ha _
 ·rename_i ks as bs;cases ha with
  |agg _ _ xs l1 o1 h1=>
   simp only[Instr.sameBits,beq_self_eq_true,afS];refine sK λy hy=>?_
   obtain⟨i,hi,e⟩:=agB hy;have hi2:i<xs.size:=by simpa using hi
   obtain⟨k,q,hk⟩:=Gv he i (by omega);have e1:=h1 i (by omega);rw[afx,afW hi2]at e1;have e3:xs[i]=y:=by simpa using e
   rw[e3]at e1;exact Ja hk e1 n
 ·cases he
theorem Di{a:Loc}{x:Value}(h:aD w G L (.mp a) x):∃b,x=.map (some b)∧L a∧G.len a=none∧G.blk a=some b:=by
 cases h with
 |mp _ a b hL hm hb=>exact⟨b,rfl,hL,hm,hb⟩
theorem ML{es:List (AV×AV)}{entries:Array MapEntry}(h1:entries.size=es.length)
  (h2:∀i,i<es.length->aD w G bM (es.getD i (.top,.top)).1 (entries.getD i default).key∧aD w G L (es.getD i (.top,.top)).2 (entries.getD i default).val):Kt w G L es entries.toList:=
 ⟨by simpa using h1,λi hi=>by
  have:=h2 i hi;rwa[show entries.toList.getD i default=entries.getD i default by simp[afk,afx]]⟩
theorem Vh(s:Sim w G h)(hn:h≠[]){a:Act}{o:Oper}{t:TypeId}{r:Option Operand}(ho:o.op=.makeMap t r)(hr:r=none∨∃k n,r=some (.const (.int k n))∧∃kt et,P.underlying t=some (.map kt et)) :
  cQ P w G h a o (.mp (hnext h)) (hnew h (.map [])):=by
 have hb:∀k,k<w.heap.size->(w.alloc (.map #[] 0)).heap[k]?=w.heap[k]?:=λk hk=>heap_alloc_old w _ hk
 have g:=Goes.new (w':=w.alloc (.map #[] 0)) (B:=.map []) (b:=some w.heap.size) (n:=none) (c:=0) s hn rfl rfl rfl (by simp) hb (λk hk=>by injection hk with hk;omega);refine⟨_,.map (some w.heap.size),w.alloc (.map #[] 0),G.at_ (hnext h) (some w.heap.size) none 0,?_,.inl rfl,s.new hn (by simp) hb (λk hk=>by injection hk with hk;omega) ?_,g,?_⟩
 ·rcases hr with rfl|⟨k,n,rfl,kt,et,hu⟩
  ·simp[execOp,ho,Instr.makeMap]
  ·simp[execOp,ho,Instr.makeMap,run_underlying hu,asInt,asIntOf,Act.eval]
 ·exact⟨w.heap.size,#[],0,by simp[Gm.at_],by simp[Gm.at_],heap_alloc_new w _,rfl,λi hi=>absurd hi (by simp)⟩
 ·exact .mp _ _ _ ((dw hn _ _).2 (.inl rfl)) (by simp[Gm.at_]) (by simp[Gm.at_])
theorem acy(s:Sim w G h){e:Env}{a:Act}(he:aF w G (dom h) e a){o:Oper}{t kt et:TypeId}{x k:Operand}{x' k':Opd}{ok:Bool}{kk:KK}{z:AV}
  (ho:o.op=.lookup t x k ok) (hx:aS x=some x') (hk:aS k=some k') (hu:P.underlying t=some (.map kt et)) (hkk:Gx P kt=some kk) (hz:zeroOf P et=some z)
  {K:Cfg} {O:Orc} {v:AV} {h':Heap} (hev:evM K O (.lkp kk z ok x' k') e h=some (.val v h')):cQ P w G h a o v h':=by
 have hr:=aG he hx;have hrk:=aG he hk;obtain⟨i,zv,hi,hzv,hzz,hzl⟩:=cY hz;have hzr:aD w G (dom h) z zv:=by rw[hzz];exact fD zv
 have hrun:(zeroValue et).run P w=.ok zv w:=by simp[zeroValue,typeInfo,hi,hzv]
 have done:∀{y:Value} {u:AV} {b:Bool},aD w G (dom h) u y->(Instr.lookup t (a.eval x) (a.eval k) ok).run P w=.ok (if ok then .tuple #[y,.bool b] else y) w->cQ P w G h a o (if ok then .tup [u,.bool b] else u) h:=λ{y u b} hy hl=>by
  refine⟨_,(if ok then .tuple #[y,.bool b] else y),w,G,?_,.inl rfl,s,Goes.refl _ _ _,?_⟩
  ·simp[execOp,ho,hl]
  ·cases ok
   ·exact hy
   ·simp only[if_true];refine .tup _ _ _ rfl λi hi=>?_
    match i,hi with
    | 0,_=>exact hy
    | 1,_=>exact .bool _ _
    |i+2,hi=>simp at hi;omega
 simp only[evM]at hev;split at hev
 ·rename_i m hm;rw[hm]at hr;obtain⟨b,e1,hL,hlen,hblk⟩:=Di hr;split at hev
  ·rename_i es hes;obtain⟨b',entries,clock,h1,h2,h3,h4,h5⟩:=s.blk m _ hes;rw[hblk]at h2;injection h2 with h2
   subst h2;split at hev
   ·rename_i q hq;have hck:=λem=>Dh (P:=P) hkk hrk hq em
    have hp:(k'.ev e).pure=true:=I7 hq;have er:=ML h4 h5;split at hev
    ·rename_i u hlk;injection hev with hev
     injection hev with ev1 ev2
     subst ev1 ev2;rcases Gw hlk with⟨c1,_⟩|⟨j,ka,u',c1,c2,c3⟩
     ·cases c1
     ·injection c1 with c1
      subst c1;have hf:=find_ok (P:=P) hkk hrk hp er c2;have hj:j<es.length:=(aft.1 c3).1;have:=(er.2 j hj).2;rw[show es.getD j (.top,.top)=(ka,u) by simp[afk,c3]]at this;exact done (this.wider λa ha=>ha.2) (by rw[e1];simp[Instr.lookup,run_underlying hu,agU h3,hck,hf])
    ·rename_i hlk;injection hev with hev
     injection hev with ev1 ev2
     subst ev1 ev2;rcases Gw hlk with⟨_,c2⟩|⟨j,ka,u',c1,c2,c3⟩
     ·have hf:=find_ok (P:=P) hkk hrk hp er c2;exact done hzr (by rw[e1];simp[Instr.lookup,run_underlying hu,agU h3,hck,hf,hrun])
     ·cases c1
    ·cases hev
   ·cases hev
  ·cases hev
 ·rename_i hm;rw[hm]at hr;have e1:a.eval x=.map none:=by
   generalize a.eval x=xv at hr;cases hr;rfl
  split at hev
  ·rename_i q hq;injection hev with hev
   injection hev with ev1 ev2
   subst ev1 ev2;have hck:=λem=>Dh (P:=P) hkk hrk hq em
   have hf:=find_ok (P:=P) (es:=[]) (l:=[]) (L':=bM) (r:=none) hkk hrk (I7 hq) ⟨rfl,λi hi=>absurd hi (by simp)⟩ rfl;exact done hzr (by rw[e1];simp[Instr.lookup,run_underlying hu,hck,hf,hrun])
  ·cases hev
 ·cases hev
theorem Vi(s:Sim w G h){e:Env}{a:Act}(he:aF w G (dom h) e a){o:Oper}{t kt et:TypeId}{x k v:Operand}{x' k' v':Opd}{kk:KK}
  (ho:o.op=.mapUpdate t x k v∨o.op=.insert t x k v) (hx:aS x=some x') (hk:aS k=some k') (hv:aS v=some v') (hu:P.underlying t=some (.map kt et)) (hkk:Gx P kt=some kk)
  {K:Cfg} {O:Orc} {u:AV} {h':Heap} (hev:evM K O (.mup kk x' k' v') e h=some (.val u h')):cQ P w G h a o u h':=by
 have hr:=aG he hx;have hrk:=aG he hk;have hrv:=aG he hv;have hex:(execOp a.eval o).run P w=((Instr.mapUpdate t (a.eval x) (a.eval k) (a.eval v)).run P w).andThen λ_ w'=>.ok .skip w':=by
  rcases ho with ho|ho<;>simp[execOp,ho]<;>rfl
 simp only[evM]at hev;split at hev
 ·rename_i m hm;rw[hm]at hr;obtain⟨b,e1,hL,hlen,hblk⟩:=Di hr;split at hev
  ·rename_i es hes;obtain⟨b',entries,clock,h1,h2,h3,h4,h5⟩:=s.blk m _ hes;rw[hblk]at h2;injection h2 with h2
   subst h2;split at hev
   ·rename_i hc;obtain⟨hp,Rz⟩:=hc;split at hev
    ·rename_i q es' hq hup;injection hev with hev
     injection hev with ev1 ev2
     subst ev1 ev2;have hck:=λem=>Dh (P:=P) hkk hrk hq em
     have er:=ML h4 h5;have key:∃entries' clock',(Instr.mapUpdate t (.map (some b)) (a.eval k) (a.eval v)).run P w=.ok () { w with heap:=w.heap.setIfInBounds b (.map entries' clock') }∧entries'.size=es'.length ∧
       ∀i,i<es'.length->((es'.getD i (.top,.top)).1=k'.ev e∧(entries'.getD i default).key=a.eval k∨((es'.getD i (.top,.top)).1=(es.getD i (.top,.top)).1∧(entries'.getD i default).key=(entries.getD i default).key∧i<es.length)) ∧
        ((es'.getD i (.top,.top)).2=v'.ev e∧(entries'.getD i default).val=a.eval v∨((es'.getD i (.top,.top)).2=(es.getD i (.top,.top)).2∧(entries'.getD i default).val=(entries.getD i default).val∧i<es.length)):=by
      rcases RB hup with⟨c1,c2⟩|⟨j,ka,u0,c1,c2,c3,c4⟩
      ·have hf:=find_ok (P:=P) hkk hrk hp er c1;refine⟨entries.push { key:=a.eval k,val:=a.eval v,born:=clock },clock+1,?_,?_,λi hi=>?_⟩
       ·simp[Instr.mapUpdate,run_underlying hu,agU h3,hck,hf,Go.MapKept.run_setObj_map _ h3]
       ·rw[c2];simp[h4]
       ·rw[c2]at hi⊢;simp only[afr,afU]at hi;by_cases hl:i<es.length
        ·have p1:(es++[(k'.ev e,v'.ev e)]).getD i (.top,.top)=es.getD i (.top,.top):=by simp[afk,afF hl]
         have p2:(entries.push { key:=a.eval k,val:=a.eval v,born:=clock }).getD i default=entries.getD i default:=by
          simp only[afx];rw[Array.getElem?_push_lt (by omega),afW (by omega)]
         rw[p1,p2];exact⟨.inr ⟨rfl,rfl,hl⟩,.inr ⟨rfl,rfl,hl⟩⟩
        ·have hi2:i=es.length:=by omega
         have p1:(es++[(k'.ev e,v'.ev e)]).getD i (.top,.top)=(k'.ev e,v'.ev e):=by simp[afk,hi2]
         have p2:(entries.push { key:=a.eval k,val:=a.eval v,born:=clock }).getD i default={ key:=a.eval k,val:=a.eval v,born:=clock }:=by
          rw[hi2,<-h4];simp[afx]
         rw[p1,p2];exact⟨.inl ⟨rfl,rfl⟩,.inl ⟨rfl,rfl⟩⟩
      ·have hf:=find_ok (P:=P) hkk hrk hp er c1;have hj:j<es.length:=(aft.1 c2).1;have hj2:j<entries.size:=by omega
       have hka:=Yc c4;have hkr:=(er.2 j hj).1;rw[show es.getD j (.top,.top)=(ka,u0) by simp[afk,c2]]at hkr;have hsame:entries[j].key=a.eval k:=by
        have e2:(entries.toList.getD j default).key=entries[j].key:=by simp[afk,hj2]
        rw[<-e2];simp only at hkr;rw[<-hka]at hkr;exact Ux hq hkr hrk
       refine⟨entries.modify j λe0=>{ e0 with key:=a.eval k,val:=a.eval v },clock,?_,?_,λi hi=>?_⟩
       ·have acJ:=Uy hq hrk 9999;simp[Instr.mapUpdate,run_underlying hu,agU h3,hck,hf,Go.MapKept.run_setObj_map _ h3,Instr.keyThatStays,hj2,hsame,acJ]
       ·rw[c3];simp[h4]
       ·rw[c3]at hi⊢;simp only[afY]at hi;by_cases hij:i=j
        ·subst hij;have p1:(es.set i (ka,v'.ev e)).getD i (.top,.top)=(ka,v'.ev e):=by simp[afk,hi]
         have p2:(entries.modify i λe0=>{ e0 with key:=a.eval k,val:=a.eval v }).getD i default={ entries[i]with key:=a.eval k,val:=a.eval v }:=by
          rw[afx,agV,if_pos rfl,afW hj2];rfl
         rw[p1,p2];exact⟨.inl ⟨hka.symm,rfl⟩,.inl ⟨rfl,rfl⟩⟩
        ·have p1:(es.set j (ka,v'.ev e)).getD i (.top,.top)=es.getD i (.top,.top):=by simp[afk,agh hij]
         have p2:(entries.modify j λe0=>{ e0 with key:=a.eval k,val:=a.eval v }).getD i default=entries.getD i default:=by
          simp[afx,agV,agh hij]
         rw[p1,p2];exact⟨.inr ⟨rfl,rfl,hi⟩,.inr ⟨rfl,rfl,hi⟩⟩
     obtain⟨entries',clock',hrun,hsz,hent⟩:=key;have hw:∀r,r≠b->({ w with heap:=w.heap.setIfInBounds b (.map entries' clock') }:World).heap[r]?=w.heap[r]?:=λr hr=>(heap_set (o':=.map entries' clock') h3).2 r hr
     have hI:aW w G { w with heap:=w.heap.setIfInBounds b (.map entries' clock') } G:=λr q hi=>by
      refine⟨hi,?_⟩;by_cases hrb:r=b
      ·subst hrb;simp[World.cell?,(heap_set (o':=.map entries' clock') h3).1,h3]
      ·exact agf (hw r hrb)
     have hA:∀a,Agree G G a:=Agree.refl G;refine⟨_,undef,{ w with heap:=w.heap.setIfInBounds b (.map entries' clock') },G,?_,.inr ⟨rfl,rfl⟩,
      s.update hL (by simp) (λr _ hr=>hw r λe=>hr (by rw[e];exact hblk)) (λ_ _=>⟨rfl,rfl,rfl⟩) (hA m) hI (λ_ _ hi=>.inl hi) (λ_ hk=>.inl hk) ?_,
      Goes.update hL rfl rfl rfl (by simp) (λr _ hr=>hw r λe=>hr (by rw[e];exact hblk)) (λ_ _=>⟨rfl,rfl,rfl⟩) (hA m) hI (λ_ hk=>.inl hk) (λ_ _ hk=>.inl hk),?_⟩
     ·rw[hex,e1,hrun];rfl
     ·refine⟨b,entries',clock',h1,hblk,(heap_set (o':=.map entries' clock') h3).1,hsz,λi hi=>?_⟩;obtain⟨c1,c2⟩:=hent i hi;constructor
      ·rcases c1 with⟨q1,q2⟩|⟨q1,q2,q3⟩
       ·rw[q1,q2];exact (hrk.I8 hp (L':=bM)).mono hI λa ha=>ha.elim
       ·rw[q1,q2];exact (h5 i q3).1.mono hI λa ha=>ha.elim
      ·rcases c2 with⟨q1,q2⟩|⟨q1,q2,q3⟩
       ·rw[q1,q2];exact hrv.goes hI (p:=λq=>decide (q.1<=m.1)) Rz λq hq hpq=>⟨⟨by simpa using hpq,(bI h m q _).2 hq⟩,hA q⟩
       ·rw[q1,q2];exact (h5 i q3).2.mono hI λq hq=>⟨⟨hq.1,(bI h m q _).2 hq.2⟩,hA q⟩
     ·exact .tup _ _ _ rfl λi hi=>by simp at hi
    ·cases hev
   ·cases hev
  ·cases hev
 ·cases hev
theorem XY(s:Sim w G h){e:Env}{a:Act}(he:aF w G (dom h) e a){o:Oper}{c:Call}{t kt et:TypeId}{x:Operand}{x':Opd}
  (ho:o.op=.call c) (hc:c.callee=.builtin .len) (hargs:c.args.toList=[x]) (hx:aS x=some x') (ht:c.argTypes[0]?=some t) (hu:P.underlying t=some (.map kt et))
  {K:Cfg} {O:Orc} {v:AV} {h':Heap} (hev:evM K O (.Oc x') e h=some (.val v h')):cQ P w G h a o v h':=by
 have hr:=aG he hx;obtain⟨as,aeQ⟩:∃as,c.args=as:=⟨_,rfl⟩
 have RF:c.args=#[x]:=by
  have:=congrArg List.toArray hargs;simpa using this
 simp only[evM]at hev;split at hev
 ·rename_i m hm;rw[hm]at hr;obtain⟨b,e1,hL,hlen,hblk⟩:=Di hr;split at hev
  ·rename_i es hes;injection hev with hev
   injection hev with ev1 ev2
   subst ev1 ev2;obtain⟨b',entries,clock,h1,h2,h3,h4,h5⟩:=s.blk m _ hes;rw[hblk]at h2;injection h2 with h2
   subst h2;refine⟨_,.int .i64 (es.length:Int),w,G,?_,.inl rfl,s,Goes.refl _ _ _,.int _ _ _⟩;simp[execOp,ho,resolve,hc,RF,invoke,builtin,Builtin.len_,ht,e1,run_underlying hu,goInt,agU h3,h4]
  ·cases hev
 ·rename_i hm;injection hev with hev
  injection hev with ev1 ev2
  subst ev1 ev2;rw[hm]at hr;have e1:a.eval x=.map none:=by
   generalize a.eval x=xv at hr;cases hr;rfl
  refine⟨_,.int .i64 0,w,G,?_,.inl rfl,s,Goes.refl _ _ _,.int _ _ _⟩;simp[execOp,ho,resolve,hc,RF,invoke,builtin,Builtin.len_,ht,e1,run_underlying hu,goInt]
 ·cases hev
