/-
  The evaluator is sound: code, loops, functions; the least evaluator that is its own step.
-/
import Derived.Test.YtjnomgdildcbhaaGreatDoorAbDraw3
set_option linter.all false
namespace Go.Ab
open Go.RowKit
variable{P:Program}
def I0(P:Program)(c:Code)(Q:Exit->Act->World->Prop)(a:Act)(w:World):Prop:=
 ∀(b:Frame) (k:List Item) (cs:List Frame),∃e a' w',Q e a' w'∧Arrives P (lone (b.at a (.code c::.inLoop c::k)) cs w) b k cs e a' w'
theorem KC{c:Code}{Q:Exit->Act->World->Prop}{a:Act}{w:World}(h:I0 P c Q a w):(Code.loop c).wp P Q a w:=λb k cs=>by
 obtain⟨e,a',w',hq,harr⟩:=h b k cs;exact⟨e,a',w',hq,.of_steps (.one step_loop) harr⟩
theorem KD{c:Code}{Q:Exit->Act->World->Prop}{a:Act}{w:World}(h:c.wp P (Exit.then (I0 P c Q) Q) a w):I0 P c Q a w:=λb k cs=>by
 obtain⟨e,a₁,w₁,hq,harr⟩:=h b (.inLoop c::k) cs;cases e with
 |normal=>
  obtain⟨e₂,a₂,w₂,hq₂,harr₂⟩:=hq b k cs;exact⟨e₂,a₂,w₂,hq₂,.of_steps (Steps.trans harr (.one step_inLoop)) harr₂⟩
 |exit id=>exact⟨_,a₁,w₁,hq,.pass (x:=.inLoop c) rfl (λ_ _=>.inl (by simp)) harr⟩
 |goto l=>exact⟨_,a₁,w₁,hq,.pass (x:=.inLoop c) rfl (λ_ _=>.inl (by simp)) harr⟩
 |ret=>exact⟨_,a₁,w₁,hq,.pass (x:=.inLoop c) rfl (λ_ _=>.inl (by simp)) harr⟩
 |panic ch=>exact⟨_,a₁,w₁,hq,.pass (x:=.inLoop c) rfl (λ_ _=>.inl (by simp)) harr⟩
 |outgrown=>exact⟨_,a₁,w₁,hq,.pass (x:=.inLoop c) rfl (λ_ _=>.inl (by simp)) harr⟩
theorem vv.drop{w:World}{G:Gm}{L L':Loc->Prop}{a:Loc}{B:Blk}{p:Loc->Bool}(h:vv w G L a B)(hp:B.aO p=true)(hL:∀q,L q->p q=true->L' q):vv w G L' a B:=by
 cases B with
 |box t fz v=>
  obtain⟨b,c,h1,h2,h3,h4,h5,h6⟩:=h;refine⟨b,c,h1,h2,h3,h4,λj hj=>⟨(h5 j hj).1,(h5 j hj).2.goes (aW.refl w G) (p:=p) (kF hp (by omega)) λq hq hpq=>⟨hL q hq hpq,Agree.refl G q⟩⟩,h6⟩
 |arr t sz vw es=>exact h
 |map es=>
  obtain⟨b,en,ck,h1,h2,h3,h4,h5⟩:=h;refine⟨b,en,ck,h1,h2,h3,h4,λi hi=>⟨(h5 i hi).1,(h5 i hi).2.goes (aW.refl w G) (p:=p) ?_ λq hq hpq=>⟨hL q hq hpq,Agree.refl G q⟩⟩⟩;simp only[Blk.aO,afL]at hp;refine hp _ ?_;rw[afk,afD hi];exact agT hi
 |dead=>exact h
 |arq t sz k ti si out es=>exact h
 |arv t sz es=>
  obtain⟨h0,h⟩:=h;refine⟨h0,?_⟩;rcases h with h|⟨b,c,h1,h2,h3,h4,h5,h6,h7,h8⟩
  ·exact .inl h
  ·refine .inr ⟨b,c,h1,h2,h3,h4,h5,h6,λi hi=>⟨(h7 i hi).1,λj hj=>⟨((h7 i hi).2 j hj).1,((h7 i hi).2 j hj).2.goes (aW.refl w G) (p:=p) ?_ λq hq hpq=>⟨hL q hq hpq,Agree.refl G q⟩⟩⟩,h8⟩;exact kF (fI hp i hi) (by rw[(h7 i hi).1];exact hj)
theorem Sj(live:List Nat)(e:Env)(t:Nat):get (keep live e) t=if t∈live then get e t else .top:=by
 unfold keep
 induction live with
 |nil=>simp[get]
 |cons x r ih=>
  simp only[afj,get,ih,afp];by_cases c:x=t
  ·subst c;simp
  ·rw[if_neg c];by_cases c2:t∈r
   ·rw[if_pos c2,if_pos (.inr c2)]
   ·rw[if_neg c2,if_neg (by rintro (rfl|h)<;>simp_all)]
theorem aF.MV{w:World}{G:Gm}{L:Loc->Prop}{e:Env}{a:Act}(r:aF w G L e a)(live:List Nat):aF w G L (keep live e) a:=λt=>by
 rw[Sj];split
 ·exact r t
 ·exact .top _ _
theorem jJ{f:List Blk}{o:Heap}{a:Loc}:dom (f::o) a↔if a.1=o.length then a.2<f.length else dom o a:=by
 unfold dom;simp only[hget];split
 ·by_cases c:a.2<f.length
  ·simp[c]
  ·simp[c]
 ·rfl
theorem fE{h:Heap}{a:Loc}(hd:dom h a):a.1<h.length:=by
 obtain⟨B,hB⟩:=Kv hd;exact mO hB
theorem Sk{h:Heap}{a:Loc}(hd:dom h a)(hl:a.1+1=h.length):a.2<hlen h:=by
 cases h with
 |nil=>simp at hl
 |cons f o=>
  rw[jJ,if_pos (by simpa using hl)]at hd;exact hd
theorem YD{n:Nat}{live:List Nat}{s s':St}(hc:cut n live s=some s'){w0:World}{G0:Gm}{h0:Heap}{w:World}{G:Gm}{a:Act}(g:Goes w0 G0 h0 w G s.h)(sm:Sim w G s.h)(r:aF w G (dom s.h) s.env a)
  (hn:hlen h0<=n):Goes w0 G0 h0 w G s'.h∧Sim w G s'.h∧aF w G (dom s'.h) s'.env a∧s'.h≠[]:=by
 unfold cut at hc;split at hc
 ·cases hc
 ·rename_i f o hh;split at hc
  ·injection hc with hc;subst hc
   exact⟨g,sm,r.MV live,by simp[hh]⟩
  ·split at hc
   ·rename_i c;obtain⟨c1,c2,c3⟩:=c;injection hc with hc;subst hc
    rw[hh]at g sm r;have hdom:∀q,dom (f.take n::o) q↔dom (f::o) q∧(!(q.1==o.length) ||decide (q.2<n))=true:=λq=>by
     rw[jJ,jJ];by_cases e:q.1=o.length
     ·simp[e,agw];omega
     ·simp[e]
    refine⟨⟨g.os,g.tape,g.output,g.size,g.heap,λb hk=>g.img b (hk.imp (λ⟨q,hq,e⟩=>⟨q,((hdom q).1 hq).1,e⟩) id),g.imm,λq hq=>?_,g.depth,?_,g.C6⟩,⟨λq B hB=>?_,λx y b hx hy=>sm.inj x y b ((hdom x).1 hx).1 ((hdom y).1 hy).1,sm.imm,λb x hx=>⟨(sm.prv b x hx).1,λq hq=>(sm.prv b x hx).2 q ((hdom q).1 hq).1⟩⟩,λt=>?_,by simp⟩
    ·obtain⟨k1,k2⟩:=g.loc q hq;refine⟨(hdom q).2 ⟨k1,?_⟩,k2⟩;by_cases e:q.1=o.length
     ·have hd:=g.depth;simp only[Io]at hd;have:=Sk hq (by omega);simp[e];omega
     ·simp[e]
    ·show hlen h0<=(f.take n).length;rw[agw];omega
    ·have hd:dom (f.take n::o) q:=gL hB;have hq:=(hdom q).1 hd;have hB':hget (f::o) q=some B:=by
      simp only[hget]at hB⊢;split
      ·rename_i e;rw[if_pos e]at hB;rw[List.getElem?_take]at hB;split at hB
       ·exact hB
       ·cases hB
      ·rename_i e;rw[if_neg e]at hB;exact hB
     have h1:=sm.blk q B hB';by_cases e:q.1=o.length
     ·have hmem:B∈f.take n:=by
       simp only[hget,e,if_true]at hB;exact afB hB
      have hp:=afL.1 c3 B hmem;exact h1.drop hp λx hx hpx=>⟨hx.1,(hdom x).2 ⟨hx.2,hpx⟩⟩
     ·have hlt:=fE hq.1;simp only[Io]at hlt;have:∀x,mR (f::o) q.1 x->mR (f.take n::o) q.1 x:=λx hx=>⟨hx.1,(hdom x).2 ⟨hx.2,by have:=hx.1;simp;omega⟩⟩
      cases B with
      |box t fz v=>
       obtain⟨b,c,h1,h2,h3,h4,h5,h6⟩:=h1;exact⟨b,c,h1,h2,h3,h4,λj hj=>⟨(h5 j hj).1,(h5 j hj).2.wider this⟩,h6⟩
      |arr t sz vw es=>exact h1
      |map es=>
       obtain⟨b,en,ck,h1,h2,h3,h4,h5⟩:=h1;exact⟨b,en,ck,h1,h2,h3,h4,λi hi=>⟨(h5 i hi).1,(h5 i hi).2.wider this⟩⟩
      |dead=>exact h1
      |arq t sz k ti si out es=>exact h1
      |arv t sz es=>
       obtain⟨h0,h⟩:=h1;refine⟨h0,?_⟩;rcases h with h|⟨b,c,h1,h2,h3,h4,h5,h6,h7,h8⟩
       ·exact .inl h
       ·exact .inr ⟨b,c,h1,h2,h3,h4,h5,h6,λi hi=>⟨(h7 i hi).1,λj hj=>⟨((h7 i hi).2 j hj).1,((h7 i hi).2 j hj).2.wider this⟩⟩,h8⟩
    ·have hr:=r.MV live t;refine hr.goes (aW.refl w G) (p:=λa=>!(a.1==o.length) ||decide (a.2<n)) ?_ λq hq hpq=>⟨(hdom q).2 ⟨hq,hpq⟩,Agree.refl G q⟩
     unfold XQ at c2;have key:∀(e:Env),(e.all λx=>x.2.aO λa=>!(a.1==o.length) ||decide (a.2<n))=true->(get e t).aO (λa=>!(a.1==o.length) ||decide (a.2<n))=true:=λe=>by
      induction e with
      |nil=>intro _;simp[get,AV.aO]
      |cons x e ih=>
       intro hall;simp only[af9,afC]at hall;obtain⟨j,v⟩:=x;simp only[get];split
       ·exact hall.1
       ·exact ih hall.2
     exact key _ c2
   ·injection hc with hc;subst hc
    exact⟨g,sm,r.MV live,by simp[hh]⟩
def gG(P:Program)(H:Hints)(O:Orc):Prop:=∀(f:FuncId) (N:Nat) (D:List Deferred) (c:Code) (n:Nat) (live:List Nat) (st:St) (ex:Ex) (st':St),O.code (.af n live (dK P H f N c)) st=some (ex,st') ->
 ∀(w0:World) (G0:Gm) (h0:Heap) (w:World) (G:Gm) (a:Act),Goes w0 G0 h0 w G st.h->Sim w G st.h->st.h≠[]->aF w G (dom st.h) st.env a->a.tmps.size=N->a.defers=D->hlen h0<=n ->
  I0 P c (Post N D w0 G0 h0 ex st') a w
theorem mB{O:Orc}(hO:cV P O){H:Hints}(hL:gG P H O){K:Cfg}{f:FuncId}{N:Nat}{D:List Deferred}:∀(c:Code) (st:St) (ex:Ex) (st':St),evC K O (dK P H f N c) st=some (ex,st') ->
  ∀(w0:World) (G0:Gm) (h0:Heap) (w:World) (G:Gm) (a:Act),Goes w0 G0 h0 w G st.h->Sim w G st.h->st.h≠[]->aF w G (dom st.h) st.env a->a.tmps.size=N->a.defers=D->c.wp P (Post N D w0 G0 h0 ex st') a w
 |.skip,st,ex,st',he,w0,G0,h0,w,G,a,g,s,hn,r,hN,hd=>by
  simp only[dK,evC,fS,afn]at he;obtain⟨rfl,rfl⟩:=he;exact wp_skip ⟨G,s,g,r,hN,hd,rfl⟩
 |.label _,st,ex,st',he,w0,G0,h0,w,G,a,g,s,hn,r,hN,hd=>by
  simp only[dK,evC,fS,afn]at he;obtain⟨rfl,rfl⟩:=he;exact wp_label ⟨G,s,g,r,hN,hd,rfl⟩
 |.region id ops draw,st,ex,st',he,w0,G0,h0,w,G,a,g,s,hn,r,hN,hd=>by
  simp only[dK]at he;cases draw with
  |true=>
   simp only[if_true]at he;exact Uv hO he g s hn r hN hd
  |false=>
   simp only[afA,if_false,evC]at he;exact wp_region_list (C0 hO _ _ _ _ he w0 G0 h0 w G a g s hn r hN hd)
 |.seq x y,st,ex,st',he,w0,G0,h0,w,G,a,g,s,hn,r,hN,hd=>by
  simp only[dK,evC]at he;have hx:=mB hO hL (K:=K) (f:=f) (N:=N) (D:=D) x st;refine wp_seq ?_;split at he
  ·rename_i s1 h1;refine wp_mono (hx _ _ h1 w0 G0 h0 w G a g s hn r hN hd) λe a' w' p=>?_
   have hne:s1.h≠[]:=by
    obtain⟨G',q1,q2,_⟩:=p;intro e0;have h1:=q2.depth;have h2:=g.depth;rw[e0]at h1;cases hs:st.h with
    |nil=>exact hn hs
    |cons q t=>rw[hs]at h2;simp at h1 h2;omega
   obtain⟨G',q1,q2,q3,q4,q5,rfl⟩:=p;exact mB hO hL y s1 ex st' he w0 G0 h0 w' G' a' q2 q1 hne q3 q4 q5
  ·rename_i hnn;refine wp_mono (hx ex st' he w0 G0 h0 w G a g s hn r hN hd) λe a' w' p=>?_
   cases ex with
   |norm=>exact absurd he (hnn st')
   |exit id=>have p':=p;obtain⟨G',q1,q2,q3,q4,q5,rfl⟩:=p;exact p'
   |ret=>have p':=p;obtain⟨G',q1,q2,q3,q4,q5,rfl⟩:=p;exact p'
   |pan v=>have p':=p;obtain⟨G',q1,q2,q3,q4,q5,x,rfl,_⟩:=p;exact p'
 |.cond x c1 c2,st,ex,st',he,w0,G0,h0,w,G,a,g,s,hn,r,hN,hd=>by
  simp only[dK]at he;split at he
  ·rename_i y hy;simp only[evC]at he;split at he
   ·rename_i t ht;have hr:=aG r hy;rw[ht]at hr;have hb:=cm hr;cases t with
    |true=>
     simp only[if_true]at he;exact wp_cond_true hb (mB hO hL c1 st ex st' he w0 G0 h0 w G a g s hn r hN hd)
    |false=>
     simp only[afA,if_false]at he;exact wp_cond_false hb (mB hO hL c2 st ex st' he w0 G0 h0 w G a g s hn r hN hd)
   ·cases he
  ·simp[evC]at he
 |.block id c,st,ex,st',he,w0,G0,h0,w,G,a,g,s,hn,r,hN,hd=>by
  simp only[dK,evC]at he;have hx:=mB hO hL (K:=K) (f:=f) (N:=N) (D:=D) c st;refine wp_block ?_;split at he
  ·rename_i j s1 h1;refine wp_mono (hx _ _ h1 w0 G0 h0 w G a g s hn r hN hd) λe a' w' p=>?_
   obtain⟨G',q1,q2,q3,q4,q5,rfl⟩:=p;split at he
   ·rename_i hj;simp only[fS,afn]at he;obtain⟨rfl,rfl⟩:=he;simp only[Exit.inBlock,hj,if_true];exact⟨G',q1,q2,q3,q4,q5,rfl⟩
   ·rename_i hj;simp only[fS,afn]at he;obtain⟨rfl,rfl⟩:=he;simp only[Exit.inBlock,hj,if_false];exact⟨G',q1,q2,q3,q4,q5,rfl⟩
  ·rename_i hnn;refine wp_mono (hx ex st' he w0 G0 h0 w G a g s hn r hN hd) λe a' w' p=>?_
   cases ex with
   |exit j=>exact absurd he (hnn j st')
   |norm=>have p':=p;obtain⟨G',q1,q2,q3,q4,q5,rfl⟩:=p;exact p'
   |ret=>have p':=p;obtain⟨G',q1,q2,q3,q4,q5,rfl⟩:=p;exact p'
   |pan v=>have p':=p;obtain⟨G',q1,q2,q3,q4,q5,x,rfl,_⟩:=p;exact p'
 |.loop c,st,ex,st',he,w0,G0,h0,w,G,a,g,s,hn,r,hN,hd=>by
  simp only[dK,evC]at he;exact KC (hL f N D c _ _ _ ex st' he w0 G0 h0 w G a g s hn (r.MV _) hN hd g.frame)
 |.exit id,st,ex,st',he,w0,G0,h0,w,G,a,g,s,hn,r,hN,hd=>by
  simp only[dK,evC,fS,afn]at he;obtain⟨rfl,rfl⟩:=he;exact wp_exit ⟨G,s,g,r,hN,hd,rfl⟩
 |.ret,st,ex,st',he,w0,G0,h0,w,G,a,g,s,hn,r,hN,hd=>by
  simp only[dK,evC,fS,afn]at he;obtain⟨rfl,rfl⟩:=he;exact wp_ret ⟨G,s,g,r,hN,hd,rfl⟩
 |.scope c,st,ex,st',he,w0,G0,h0,w,G,a,g,s,hn,r,hN,hd=>by
  simp only[dK,evC]at he;refine wp_scope_straight (wp_mono (mB hO hL c st ex st' he w0 G0 h0 w G a g s hn r hN hd) λe a' w' p=>?_);cases ex with
  |exit j=>have p':=p;obtain⟨G',q1,q2,q3,q4,q5,rfl⟩:=p;exact p'
  |norm=>have p':=p;obtain⟨G',q1,q2,q3,q4,q5,rfl⟩:=p;exact p'
  |ret=>have p':=p;obtain⟨G',q1,q2,q3,q4,q5,rfl⟩:=p;exact p'
  |pan v=>have p':=p;obtain⟨G',q1,q2,q3,q4,q5,x,rfl,_⟩:=p;exact p'
 |.rangeFunc _ _ _ _,st,ex,st',he,w0,G0,h0,w,G,a,g,s,hn,r,hN,hd=>by simp[dK,evC]at he
 |.goto _,st,ex,st',he,w0,G0,h0,w,G,a,g,s,hn,r,hN,hd=>by simp[dK,evC]at he
 |.refuse _,st,ex,st',he,w0,G0,h0,w,G,a,g,s,hn,r,hN,hd=>by simp[dK,evC]at he
theorem C8{O:Orc}(hO:cV P O){H:Hints}(hL:gG P H O)(K:Cfg):gG P H (step K O):=by
 intro f N D c n live st ex st' he w0 G0 h0 w G a g s hn r hN hd hle;simp only[step,evC]at he;have hx:=mB hO hL (K:=K) (f:=f) (N:=N) (D:=D) c st;refine KD ?_;split at he
 ·rename_i s1 h1;split at he
  ·rename_i s2 hcut;refine wp_mono (hx _ _ h1 w0 G0 h0 w G a g s hn r hN hd) λe a' w' p=>?_
   obtain⟨G',q1,q2,q3,q4,q5,rfl⟩:=p;obtain⟨k1,k2,k3,k4⟩:=YD hcut q2 q1 q3 hle;exact hL f N D c n live s2 ex st' he w0 G0 h0 w' G' a' k1 k2 k4 k3 q4 q5 hle
  ·cases he
 ·rename_i hnn;refine wp_mono (hx ex st' he w0 G0 h0 w G a g s hn r hN hd) λe a' w' p=>?_
  cases ex with
  |norm=>exact absurd he (hnn st')
  |exit j=>have p':=p;obtain⟨G',q1,q2,q3,q4,q5,rfl⟩:=p;exact p'
  |ret=>have p':=p;obtain⟨G',q1,q2,q3,q4,q5,rfl⟩:=p;exact p'
  |pan v=>have p':=p;obtain⟨G',q1,q2,q3,q4,q5,x,rfl,_⟩:=p;exact p'
def zD(tmps:Array Value):ResultVar->Sem Value
 |.tmp t=>pure (tmps.getD t undef)
 |.cell b t=>do loadVar t (<- asAddr (tmps.getD b undef))
theorem xk{w:World}{G:Gm}{h:Heap}{N:Nat}{e:Env}{a:Act}(s:Sim w G h)(r:aF w G (dom h) e a):∀{rs:List ResultVar} {cs:List jm} {vs:List AV},Gp P N rs=some cs->nL { env:=e,h:=h } cs=some vs ->
  ∃xs:List Value,(rs.mapM (zD a.tmps)).run P w=.ok xs w∧xs.length=vs.length ∧
   ∀i,i<vs.length->aD w G (dom h) (vs.getD i .top) (xs.getD i undef)
 | [],cs,vs,hc,he=>by
  simp only[Gp,fS]at hc;subst hc;simp only[nL,fS]at he;subst he;exact⟨[],rfl,rfl,λi hi=>by simp at hi⟩
 |.tmp t::rs,cs,vs,hc,he=>by
  simp only[Gp]at hc;split at hc
  ·rename_i cs' hcs;injection hc with hc;subst hc
   simp only[nL,zi]at he;split at he
   ·rename_i vs' hvs;injection he with he;subst he
    obtain⟨xs,k1,k2,k3⟩:=xk s r hcs hvs;refine⟨a.tmps.getD t undef::xs,?_,by simp[k2],λi hi=>?_⟩
    ·rw[List.mapM_cons];simp only[zD,afs,afV,afI,k1]
    ·cases i with
     |zero=>simpa using r t
     |succ i=>simpa using k3 i (by simpa using hi)
   ·cases he
  ·cases hc
 |.cell b t::rs,cs,vs,hc,he=>by
  simp only[Gp]at hc;split at hc
  ·rename_i ag sz cs' hsh hcs;split at hc
   ·rename_i hsz;injection hc with hc;subst hc
    simp only[nL,zi]at he;split at he
    ·rename_i v hv;split at he
     ·rename_i vs' hvs;injection he with he;subst he
      obtain⟨xs,k1,k2,k3⟩:=xk s r hcs hvs;obtain⟨y,l1,l2⟩:=Aj (P:=P) s (r b) hsh hsz hv;have hA:(do loadVar t (<- asAddr (a.tmps.getD b undef)):Sem Value).run P w=.ok y w:=by
       unfold Instr.loadAt at l1;generalize a.tmps.getD b undef=q at l1;cases q with
       |pointer p=>
        cases p with
        |none=>simp[Instr.sureAddr]at l1
        |some p=>simpa[Instr.sureAddr,asAddr]using l1
       |_=>simp[Instr.sureAddr]at l1
      refine⟨y::xs,?_,by simp[k2],λi hi=>?_⟩
      ·rw[List.mapM_cons,afs,show (zD a.tmps (.cell b t)).run P w=.ok y w from hA];simp only[afI,afs,k1,afV]
      ·cases i with
       |zero=>simpa using l2
       |succ i=>simpa using k3 i (by simpa using hi)
     ·cases he
    ·cases he
   ·cases hc
  ·cases hc
theorem rU{fn:Func}{tmps:Array Value}{w:World}{xs:List Value}(h:(fn.results.toList.mapM (zD tmps)).run P w=.ok xs w) :
  (results fn tmps).run P w=.ok (match xs with| [x]=>x|l=>.tuple l.toArray) w:=by
 have e:(fn.results.mapM (zD tmps)).run P w=.ok xs.toArray w:=by
  rw[Array.mapM_eq_mapM_toList];simp[h]
 have e2:results fn tmps=(do let vs <- fn.results.mapM (zD tmps);pure (if h:vs.size=1 then vs[0] else .tuple vs)):=by
  unfold results
  congr 1
 rw[e2,afs,e,afI,afV]
 match xs with
 | []=>rfl
 | [x]=>rfl
 |x::y::l=>rfl
theorem Rw{w:World}{G:Gm}{h:Heap}{N:Nat}{e:Env}{a:Act}(s:Sim w G h)(r:aF w G (dom h) e a){fn:Func}{cs:List jm}{v:AV}(hc:Gp P N fn.results.toList=some cs)(he:CZ { env:=e,h:=h } cs=some v) :
  ∃x,(results fn a.tmps).run P w=.ok x w∧aD w G (dom h) v x:=by
 unfold CZ at he;split at he
 ·rename_i u hu;injection he with he;subst he
  obtain⟨xs,k1,k2,k3⟩:=xk s r hc hu
  match xs,k2 with
  | [x],_=>exact⟨x,rU k1,by simpa using k3 0 (by simp)⟩
 ·rename_i us hne hu;injection he with he;subst he
  obtain⟨xs,k1,k2,k3⟩:=xk s r hc hu;refine⟨.tuple xs.toArray,?_,.tup _ _ _ (by simp[k2]) λi hi=>by rw[jk];exact k3 i hi⟩;rw[rU k1]
  match xs,k2 with
  | [],_=>rfl
  | [x],k2=>
   match us,k2 with
   | [u],_=>exact absurd rfl (hne u)
  |x::y::l,_=>rfl
 ·cases he
theorem Sim.push{w:World}{G:Gm}{h:Heap}(s:Sim w G h):Sim w G ([]::h):=by
 have hg:∀a,hget ([]::h) a=if a.1=h.length then none else hget h a:=λa=>by simp[hget]
 have hd:∀a,dom ([]::h) a↔dom h a:=λa=>by
  unfold dom;rw[hg];split
  ·rename_i e;simp only[agL,afA,false_iff];intro hh;have:=fE (h:=h) (a:=a) hh;omega
  ·rfl
 refine⟨λa B hB=>?_,λx y b hx hy=>s.inj x y b ((hd x).1 hx) ((hd y).1 hy),s.imm,λb x hx=>⟨(s.prv b x hx).1,λq hq=>(s.prv b x hx).2 q ((hd q).1 hq)⟩⟩;rw[hg]at hB;split at hB
 ·cases hB
 ·exact (s.blk a B hB).kept (aW.refl w G) (λq hq=>⟨⟨hq.1,(hd q).2 hq.2⟩,Agree.refl G q⟩) ⟨rfl,rfl,rfl⟩ (λ_ _=>rfl) (λ_ _ _ hi=>hi) λ_ _ ht=>⟨ht,rfl,λ_ ho=>ho⟩
theorem kE{h:Heap}(a:Loc):dom ([]::h) a↔dom h a:=by
 unfold dom;simp only[hget];split
 ·rename_i e;simp only[List.getElem?_nil,agL,afA,false_iff];intro hh;have:=fE (h:=h) (a:=a) hh;omega
 ·rfl
theorem Jk{w0:World}{G0:Gm}{h0:Heap}{w:World}{G:Gm}{f:List Blk}{o:Heap}(s:Sim w G (f::o))(g:Goes w0 G0 ([]::h0) w G (f::o)){v v':AV}{h':Heap}{x:Value}(hv:aD w G (dom (f::o)) v x)
  (hp:merge v f o=some (v',h')):∃G',Sim w G' h'∧Goes w0 G0 h0 w G' h'∧aD w G' (dom h') v' x:=by
 cases o with
 |nil=>cases hp
 |cons gf o=>
  simp only[merge,fS,afn]at hp;obtain⟨rfl,rfl⟩:=hp;have KE:=g.depth;simp only[Io]at KE;generalize hr:moved o.length gf.length=r;have r_eq:∀a,r a=if a.1=o.length+1 then (o.length,gf.length+a.2) else a:=λa=>by rw[<-hr];rfl
  let back:Loc->Loc:=λa=>if a.1=o.length∧gf.length<=a.2 then (o.length+1,a.2-gf.length) else a
  let G2:Gm:={ blk:=λa=>G.blk (back a),len:=λa=>G.len (back a),cap:=λa=>G.cap (back a),imm:=G.imm,tl:=λb=>(G.tl b).map λx=>(r x.1,x.2) }
  have hg2:∀a,hget ((gf++f.map (Blk.ren r))::o) a=if a.1=o.length∧gf.length<=a.2 then (f[a.2-gf.length]?).map (Blk.ren r) else hget (gf::o) a:=λa=>by
   simp only[hget];by_cases h1:a.1=o.length
   ·simp only[h1,if_true,true_and];by_cases h2:gf.length<=a.2
    ·rw[if_pos h2,afT h2,afy]
    ·rw[if_neg h2,afF (by omega)]
   ·simp[h1]
  have lvl:∀{a},dom (f::gf::o) a->a.1<=o.length+1:=λh=>by have:=fE h;simp only[Io]at this;omega
  have old:∀a,hget (f::gf::o) a=if a.1=o.length+1 then f[a.2]? else hget (gf::o) a:=λa=>by
   rw[hget];simp only[Io]
  have fwd:∀q,dom (f::gf::o) q->dom ((gf++f.map (Blk.ren r))::o) (r q)∧back (r q)=q:=λq hq=>by
   have hl:=lvl hq;unfold dom at hq⊢;rw[old]at hq;rw[hg2,r_eq];by_cases h1:q.1=o.length+1
   ·rw[if_pos h1]at hq⊢;obtain⟨q1,q2⟩:=q;simp only at h1;subst h1;refine⟨by simpa using hq,?_⟩;simp[back]
   ·rw[if_neg h1]at hq⊢;have h2:¬ (q.1=o.length∧gf.length<=q.2):=λ⟨e1,e2⟩=>by
     rw[hget,if_pos e1,agc e2]at hq;cases hq
    rw[if_neg h2];refine⟨hq,?_⟩;simp[back,h2]
  have bwd:∀a,dom ((gf++f.map (Blk.ren r))::o) a->dom (f::gf::o) (back a)∧r (back a)=a:=λa ha=>by
   unfold dom at ha⊢;rw[hg2]at ha;rw[old,r_eq];by_cases h1:a.1=o.length∧gf.length<=a.2
   ·rw[if_pos h1]at ha;have hb:back a=(o.length+1,a.2-gf.length):=by simp[back,h1]
    rw[hb];refine⟨by simpa using ha,?_⟩;obtain⟨a1,a2⟩:=a;simp only at h1;simp[h1.1];omega
   ·rw[if_neg h1]at ha;have hb:back a=a:=by simp[back,h1]
    rw[hb];have h2:¬ a.1=o.length+1:=λe=>by
     have:dom (gf::o) a:=ha;have:=fE this;simp only[Io]at this;omega
    rw[if_neg h2,if_neg h2];exact⟨ha,rfl⟩
  have agr:∀q,dom (f::gf::o) q->G2.blk (r q)=G.blk q∧G2.len (r q)=G.len q∧G2.cap (r q)=G.cap q:=λq hq=>by
   have:=(fwd q hq).2;exact⟨by show G.blk _=_;rw[this],by show G.len _=_;rw[this],by show G.cap _=_;rw[this]⟩
  have hI:∀b o,G2.imm b o↔G.imm b o:=λ_ _=>Iff.rfl
  have htl:∀b,G2.tl b≠none->G.tl b≠none:=λb hb e=>hb (by show (G.tl b).map _=none;rw[e];rfl)
  have hpu:∀b,Held G0 ([]::h0) b->Held G0 h0 b:=λb hk=>hk.imp (λ⟨q,hq,e⟩=>⟨q,(kE q).1 hq,e⟩) id
  refine⟨G2,⟨λa B hB=>?_,λx y b hx hy ex ey=>?_,s.imm,λb x hx=>?_⟩,⟨g.os,g.tape,g.output,g.size,λb hb hn=>g.heap b hb λhk=>hn (hpu b hk),λb hk hb=>?_,g.imm,λq hq=>?_,by simp only[Io];omega,?_,
   λb o hb hn=>g.C6 b o hb λhk=>hn (hpu b hk)⟩,?_⟩
  rotate_left 2
  ·have h1:G.tl b≠none:=htl b (by rw[hx];simp);cases hy:G.tl b with
   |none=>exact absurd hy h1
   |some y=>
    obtain⟨k1,k2⟩:=s.prv b y hy;exact⟨k1,λq hq e=>k2 (back q) (bwd q hq).1 e⟩
  rotate_right 2
  ·
   rw[hg2]at hB;by_cases h1:a.1=o.length∧gf.length<=a.2
   ·rw[if_pos h1,Option.map_eq_some_iff]at hB;obtain⟨B0,hB0,rfl⟩:=hB;have hb:back a=(o.length+1,a.2-gf.length):=by simp[back,h1]
    have h2:hget (f::gf::o) (o.length+1,a.2-gf.length)=some B0:=by rw[old];simpa using hB0
    have h3:=s.blk _ B0 h2;refine h3.Ox (r:=r) hI (λq hq=>⟨⟨?_,(fwd q hq.2).1⟩,agr q hq.2⟩) ⟨by show G.blk _=_;rw[hb],by show G.len _=_;rw[hb],by show G.cap _=_;rw[hb]⟩ λb' i ht=>by
     show (G.tl b').map _=_;rw[ht];have e1:r (o.length+1,a.2-gf.length)=a:=by rw[<-hb];exact (bwd a (gL (B:=B0.ren r) (by rw[hg2,if_pos h1,hB0];rfl))).2
     simp only[af7,e1]
    have:=lvl hq.2;rw[r_eq];split
    ·simp only;omega
    ·rename_i hne;omega
   ·rw[if_neg h1]at hB;have hb:back a=a:=by simp[back,h1]
    have ha1:a.1<=o.length:=by have:=fE (gL hB);simp only[Io]at this;omega
    have h2:hget (f::gf::o) a=some B:=by rw[old,if_neg (by omega)];exact hB
    refine (s.blk a B h2).kept (aW.refl w G) (λq hq=>?_) ⟨by show G.blk _=_;rw[hb],by show G.len _=_;rw[hb],by show G.cap _=_;rw[hb]⟩ (λ_ _=>rfl) (λ_ _ _ hi=>hi) λb' i ht=>⟨by
     show (G.tl b').map _=_;rw[ht];have e1:r a=a:=by rw[r_eq,if_neg (by omega)]
     simp only[af7,e1],rfl,λ_ ho=>ho⟩
    have hq1:q.1<=a.1:=hq.1;have e1:r q=q:=by rw[r_eq,if_neg (by omega)]
    obtain⟨k1,k2⟩:=fwd q hq.2;rw[e1]at k1 k2;have k3:=agr q hq.2;rw[e1]at k3;exact⟨⟨hq1,k1⟩,.inl k3⟩
  ·have hx':=bwd x hx;have hy':=bwd y hy;have:=s.inj _ _ b hx'.1 hy'.1 ex ey;rw[<-hx'.2,<-hy'.2,this]
  ·refine hpu b (g.img b ?_ hb);rcases hk with⟨a,ha,e⟩|hk
   ·exact .of (bwd a ha).1 e
   ·exact .inr (htl b hk)
  ·obtain⟨e0,e1⟩:=g.loc q ((kE q).2 hq);have hl:=fE hq;have er:r q=q:=by rw[r_eq,if_neg (by omega)]
   obtain⟨k1,k2⟩:=fwd q e0;rw[er]at k1 k2;have k3:=agr q e0;rw[er]at k3;exact⟨k1,e1.trans (.inl k3)⟩
  ·cases h0 with
   |nil=>simp[hlen]
   |cons f0 o0=>
    show f0.length<=(gf++f.map (Blk.ren r)).length;cases hf:f0.length with
    |zero=>omega
    |succ m=>
     have hq:dom (f0::o0) (o0.length,m):=by rw[jJ];simp[hf]
     have:=(g.loc (o0.length,m) ((kE _).2 hq)).1;simp only[Io]at KE;unfold dom at this;rw[old,if_neg (by simp only;omega),hget,if_pos (by simp only;omega)]at this;have hlt:m<gf.length:=by
      rcases agd m gf.length with h|h
      ·exact h
      ·rw[agc h]at this;cases this
     simp only[afr];omega
  ·exact hv.Ox (λb o=>(hI b o).2) λq hq=>⟨(fwd q hq).1,agr q hq⟩
theorem Gn{w0:World}{G0:Gm}{h0:Heap}{w:World}{G:Gm}{h:Heap}(s:Sim w G h)(g:Goes w0 G0 ([]::h0) w G h){v v':AV}{h':Heap}{x:Value}(hv:aD w G (dom h) v x)(hp:pop v h=some (v',h')) :
  ∃G',Sim w G' h'∧Goes w0 G0 h0 w G' h'∧aD w G' (dom h') v' x:=by
 unfold pop at hp;split at hp
 ·rename_i u f o hvw;split at hp
  ·rename_i aeY;simp only[fS,afn]at hp;obtain⟨rfl,rfl⟩:=hp;obtain⟨G',k1,k2,k3⟩:=mS _ s hv hvw;have g':=g.trans k2;have hd:∀q,dom o q↔dom (f::o) q∧q.1<o.length:=λq=>by
    rw[jJ];constructor
    ·intro h;have:=fE h;rw[if_neg (by omega)];exact⟨h,this⟩
    ·rintro⟨h,hl⟩;rwa[if_neg (by omega)]at h
   have KE:=g'.depth;simp only[Io]at KE;have hpu:∀b,Held G0 ([]::h0) b->Held G0 h0 b:=λb hk=>hk.imp (λ⟨q,hq,e⟩=>⟨q,(kE q).1 hq,e⟩) id
   refine⟨G',⟨λq B hB=>?_,λx y b hx hy=>k1.inj x y b ((hd x).1 hx).1 ((hd y).1 hy).1,k1.imm,λb x hx=>⟨(k1.prv b x hx).1,λq hq=>(k1.prv b x hx).2 q ((hd q).1 hq).1⟩⟩,⟨g'.os,g'.tape,g'.output,g'.size,λb hb hn=>g'.heap b hb λhk=>hn (hpu b hk),
    λb hk hb=>?_,g'.imm,λq hq=>?_,by omega,?_,λb o hb hn=>g'.C6 b o hb λhk=>hn (hpu b hk)⟩,?_⟩
   ·have hq:dom o q:=gL hB;have hB':hget (f::o) q=some B:=by
     have:=fE hq;simp only[hget];rw[if_neg (by omega)];exact hB
    exact (k1.blk q B hB').kept (aW.refl w G') (λy hy=>⟨⟨hy.1,(hd y).2 ⟨hy.2,by have:=hy.1;have:=fE hq;omega⟩⟩,Agree.refl G' y⟩) ⟨rfl,rfl,rfl⟩ (λ_ _=>rfl) (λ_ _ _ hi=>hi) λ_ _ ht=>⟨ht,rfl,λ_ ho=>ho⟩
   ·exact hpu b (g'.img b (hk.imp (λ⟨q,hq,e⟩=>⟨q,((hd q).1 hq).1,e⟩) id) hb)
   ·obtain⟨e0,e1⟩:=g'.loc q ((kE q).2 hq);refine⟨(hd q).2 ⟨e0,?_⟩,e1⟩;have:=fE hq;omega
   ·
    cases h0 with
    |nil=>simp[hlen]
    |cons f0 o0=>
     cases o with
     |nil=>simp at KE
     |cons f1 o1=>
      show f0.length<=f1.length;cases hf:f0.length with
      |zero=>omega
      |succ m=>
       have hq:dom (f0::o0) (o0.length,m):=by rw[jJ];simp[hf]
       have:=(g'.loc (o0.length,m) ((kE _).2 hq)).1;have hq2:=(hd (o0.length,m)).2 ⟨this,by simp only[Io]at KE⊢;omega⟩;rw[jJ]at hq2;simp only[Io]at KE;rw[if_pos (by omega)]at hq2;exact hq2
   ·exact k3.goes (aW.refl w G') aeY λq hq hpq=>⟨(hd q).2 ⟨hq,by simpa using hpq⟩,Agree.refl G' q⟩
  ·obtain⟨G',k1,k2,k3⟩:=mS _ s hv hvw;exact Jk k1 (g.trans k2) k3 hp
 ·cases hp
theorem Uw{w0:World}{G0:Gm}{h0:Heap}{w:World}{G:Gm}{h:Heap}(s:Sim w G h)(g:Goes w0 G0 ([]::h0) w G h){k:Bool}{v v':AV}{h':Heap}{x:Value}(hv:aD w G (dom h) v x)(hp:Um k v h=some (v',h')) :
  ∃G',Sim w G' h'∧Goes w0 G0 h0 w G' h'∧aD w G' (dom h') v' x:=by
 unfold Um at hp;split at hp
 ·split at hp
  ·exact Jk s g hv hp
  ·cases hp
 ·exact Gn s g hv hp
theorem Jl(s:St)(r:jm):zi s r.keep=zi s r:=by cases r<;>rfl
theorem Ar(s:St):∀rs:List jm,nL s (rs.map jm.keep)=nL s rs
 | []=>rfl
 |r::rs=>by simp only[afj,nL,Jl,Ar s rs]
theorem Kr(s:St)(k:Bool)(rs:List jm):CZ s (IQ k rs)=CZ s rs:=by
 unfold IQ;split
 ·unfold CZ;rw[Ar]
 ·rfl
theorem ER:∀(args:List AV) (k t:Nat),get (cI k args) t=if k<=t then args.getD (t-k) .top else .top
 | [],k,t=>by simp[cI,get]
 |a::r,k,t=>by
  simp only[cI,get];by_cases c:k=t
  ·subst c;simp
  ·rw[if_neg c,ER r (k+1) t];by_cases c2:k<=t
   ·rw[if_pos (by omega),if_pos c2];obtain⟨d,rfl⟩:∃d,t=k+1+d:=⟨t-(k+1),by omega⟩
    rw[show k+1+d-(k+1)=d by omega,show k+1+d-k=d+1 by omega];rfl
   ·rw[if_neg (by omega),if_neg c2]
