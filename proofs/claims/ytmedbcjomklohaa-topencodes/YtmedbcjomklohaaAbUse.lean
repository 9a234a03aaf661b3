/-
  The evaluator is sound: code, loops, functions; the least evaluator that is its own step.
-/
import Derived.Test.YtmedbcjomklohaaAbDraw3
import Derived.Recover
set_option linter.unusedVariables false
set_option linter.unusedSimpArgs false
namespace Go.Ab
open Go.RowKit
variable {P:Program}
def LoopW (P:Program) (c:Code) (Q:Exit→Act→World→Prop) (a:Act) (w:World):Prop:=
 ∀ (b:Frame) (k:List Item) (cs:List Frame),∃ e a' w',Q e a' w'∧Arrives P (lone (b.at a (.code c :: .inLoop c :: k)) cs w) b k cs e a' w'
theorem loopW_loop {c:Code} {Q:Exit→Act→World→Prop} {a:Act} {w:World} (h:LoopW P c Q a w):(Code.loop c).wp P Q a w:=fun b k cs=>by
 obtain ⟨e,a',w',hq,harr⟩:=h b k cs
 exact ⟨e,a',w',hq,.of_steps (.one step_loop) harr⟩
theorem loopW_step {c:Code} {Q:Exit→Act→World→Prop} {a:Act} {w:World} (h:c.wp P (Exit.then (LoopW P c Q) Q) a w):LoopW P c Q a w:=fun b k cs=>by
 obtain ⟨e,a₁,w₁,hq,harr⟩:=h b (.inLoop c :: k) cs
 cases e with
 | normal=>
  obtain ⟨e₂,a₂,w₂,hq₂,harr₂⟩:=hq b k cs
  exact ⟨e₂,a₂,w₂,hq₂,.of_steps (Steps.trans harr (.one step_inLoop)) harr₂⟩
 | exit id=>exact ⟨_,a₁,w₁,hq,.pass (x:=.inLoop c) rfl (fun _ _=>.inl (by simp)) harr⟩
 | goto l=>exact ⟨_,a₁,w₁,hq,.pass (x:=.inLoop c) rfl (fun _ _=>.inl (by simp)) harr⟩
 | ret=>exact ⟨_,a₁,w₁,hq,.pass (x:=.inLoop c) rfl (fun _ _=>.inl (by simp)) harr⟩
 | panic ch=>exact ⟨_,a₁,w₁,hq,.pass (x:=.inLoop c) rfl (fun _ _=>.inl (by simp)) harr⟩
 | outgrown=>exact ⟨_,a₁,w₁,hq,.pass (x:=.inLoop c) rfl (fun _ _=>.inl (by simp)) harr⟩
theorem BSim.drop {w:World} {G:Gm} {L L':Loc→Prop} {a:Loc} {B:Blk} {p:Loc→Bool} (h:BSim w G L a B) (hp:B.refOk p=true) (hL:∀ q,L q→p q=true→L' q):BSim w G L' a B:=by
 cases B with
 | box t fz v=>
  obtain ⟨b,c,h1,h2,h3,h4,h5,h6⟩:=h
  refine ⟨b,c,h1,h2,h3,h4,fun j hj=>⟨(h5 j hj).1,(h5 j hj).2.goes (ImmKept.refl w G) (p:=p) (cells_refOk hp (by omega)) fun q hq hpq=>⟨hL q hq hpq,Agree.refl G q⟩⟩,h6⟩
 | arr t sz vw es=>exact h
 | map es=>
  obtain ⟨b,en,ck,h1,h2,h3,h4,h5⟩:=h
  refine ⟨b,en,ck,h1,h2,h3,h4,fun i hi=>⟨(h5 i hi).1,(h5 i hi).2.goes (ImmKept.refl w G) (p:=p) ?_ fun q hq hpq=>⟨hL q hq hpq,Agree.refl G q⟩⟩⟩
  simp only [Blk.refOk,List.all_eq_true] at hp
  refine hp _ ?_
  rw [List.getD_eq_getElem?_getD,List.getElem?_eq_getElem hi]
  exact List.getElem_mem hi
 | dead=>exact h
 | arq t sz k ti si out es=>exact h
 | arv t sz es=>
  obtain ⟨h0,h⟩:=h
  refine ⟨h0,?_⟩
  rcases h with h | ⟨b,c,h1,h2,h3,h4,h5,h6,h7,h8⟩
  ·exact .inl h
  ·refine .inr ⟨b,c,h1,h2,h3,h4,h5,h6,fun i hi=>⟨(h7 i hi).1,fun j hj=>⟨((h7 i hi).2 j hj).1,((h7 i hi).2 j hj).2.goes (ImmKept.refl w G) (p:=p) ?_ fun q hq hpq=>⟨hL q hq hpq,Agree.refl G q⟩⟩⟩,h8⟩
   exact cells_refOk (refOks_get hp i hi) (by rw [(h7 i hi).1];exact hj)
theorem keep_get (live:List Nat) (e:Env) (t:Nat):get (keep live e) t=if t∈live then get e t else .top:=by
 unfold keep
 induction live with
 | nil=>simp [get]
 | cons x r ih=>
  simp only [List.map_cons,get,ih,List.mem_cons]
  by_cases c:x=t
  ·subst c;simp
  ·rw [if_neg c]
   by_cases c2:t∈r
   ·rw [if_pos c2,if_pos (.inr c2)]
   ·rw [if_neg c2,if_neg (by rintro (rfl | h)<;>simp_all)]
theorem EnvRel.keep_ {w:World} {G:Gm} {L:Loc→Prop} {e:Env} {a:Act} (r:EnvRel w G L e a) (live:List Nat):EnvRel w G L (keep live e) a:=fun t=>by
 rw [keep_get]
 split
 ·exact r t
 ·exact .top _ _
theorem dom_frame {f:List Blk} {o:Heap} {a:Loc}:dom (f :: o) a↔if a.1=o.length then a.2 < f.length else dom o a:=by
 unfold dom
 simp only [hget]
 split
 ·by_cases c:a.2 < f.length
  ·simp [c]
  ·simp [c,List.getElem?_eq_none (Nat.le_of_not_lt c)]
 ·rfl
theorem dom_level {h:Heap} {a:Loc} (hd:dom h a):a.1 < h.length:=by
 obtain ⟨B,hB⟩:=of_dom hd
 exact hget_lt hB
theorem dom_hlen {h:Heap} {a:Loc} (hd:dom h a) (hl:a.1+1=h.length):a.2 < hlen h:=by
 cases h with
 | nil=>simp at hl
 | cons f o=>
  rw [dom_frame,if_pos (by simpa using hl)] at hd
  exact hd
theorem cut_ok {n:Nat} {live:List Nat} {s s':St} (hc:cut n live s=some s') {w0:World} {G0:Gm} {h0:Heap} {w:World} {G:Gm} {a:Act} (g:Goes w0 G0 h0 w G s.h) (sm:Sim w G s.h) (r:EnvRel w G (dom s.h) s.env a)
  (hn:hlen h0≤n):Goes w0 G0 h0 w G s'.h∧Sim w G s'.h∧EnvRel w G (dom s'.h) s'.env a∧s'.h≠[]:=by
 unfold cut at hc
 split at hc
 ·cases hc
 ·rename_i f o hh
  split at hc
  ·injection hc with hc;subst hc
   exact ⟨g,sm,r.keep_ live,by simp [hh]⟩
  ·split at hc
   ·rename_i c
    obtain ⟨c1,c2,c3⟩:=c
    injection hc with hc;subst hc
    rw [hh] at g sm r
    have hdom:∀ q,dom (f.take n :: o) q↔dom (f :: o) q∧(!(q.1 == o.length) || decide (q.2 < n))=true:=fun q=>by
     rw [dom_frame,dom_frame]
     by_cases e:q.1=o.length
     ·simp [e,List.length_take];omega
     ·simp [e]
    refine ⟨⟨g.os,g.tape,g.output,g.size,g.heap,fun b hk=>g.img b (hk.imp (fun ⟨q,hq,e⟩=>⟨q,((hdom q).1 hq).1,e⟩) id),g.imm,fun q hq=>?_,g.depth,?_,g.nimm⟩,⟨fun q B hB=>?_,fun x y b hx hy=>sm.inj x y b ((hdom x).1 hx).1 ((hdom y).1 hy).1,sm.imm,fun b x hx=>⟨(sm.prv b x hx).1,fun q hq=>(sm.prv b x hx).2 q ((hdom q).1 hq).1⟩⟩,fun t=>?_,by simp⟩
    ·obtain ⟨k1,k2⟩:=g.loc q hq
     refine ⟨(hdom q).2 ⟨k1,?_⟩,k2⟩
     by_cases e:q.1=o.length
     ·have hd:=g.depth
      simp only [List.length_cons] at hd
      have:=dom_hlen hq (by omega)
      simp [e];omega
     ·simp [e]
    ·show hlen h0≤(f.take n).length
     rw [List.length_take];omega
    ·have hd:dom (f.take n :: o) q:=dom_of hB
     have hq:=(hdom q).1 hd
     have hB':hget (f :: o) q=some B:=by
      simp only [hget] at hB ⊢
      split
      ·rename_i e
       rw [if_pos e] at hB
       rw [List.getElem?_take] at hB
       split at hB
       ·exact hB
       ·cases hB
      ·rename_i e
       rw [if_neg e] at hB
       exact hB
     have h1:=sm.blk q B hB'
     by_cases e:q.1=o.length
     ·have hmem:B∈f.take n:=by
       simp only [hget,e,if_true] at hB
       exact List.mem_of_getElem? hB
      have hp:=List.all_eq_true.1 c3 B hmem
      exact h1.drop hp fun x hx hpx=>⟨hx.1,(hdom x).2 ⟨hx.2,hpx⟩⟩
     ·have hlt:=dom_level hq.1
      simp only [List.length_cons] at hlt
      have:∀ x,domTo (f :: o) q.1 x→domTo (f.take n :: o) q.1 x:=fun x hx=>⟨hx.1,(hdom x).2 ⟨hx.2,by have:=hx.1;simp;omega⟩⟩
      cases B with
      | box t fz v=>
       obtain ⟨b,c,h1,h2,h3,h4,h5,h6⟩:=h1
       exact ⟨b,c,h1,h2,h3,h4,fun j hj=>⟨(h5 j hj).1,(h5 j hj).2.wider this⟩,h6⟩
      | arr t sz vw es=>exact h1
      | map es=>
       obtain ⟨b,en,ck,h1,h2,h3,h4,h5⟩:=h1
       exact ⟨b,en,ck,h1,h2,h3,h4,fun i hi=>⟨(h5 i hi).1,(h5 i hi).2.wider this⟩⟩
      | dead=>exact h1
      | arq t sz k ti si out es=>exact h1
      | arv t sz es=>
       obtain ⟨h0,h⟩:=h1
       refine ⟨h0,?_⟩
       rcases h with h | ⟨b,c,h1,h2,h3,h4,h5,h6,h7,h8⟩
       ·exact .inl h
       ·exact .inr ⟨b,c,h1,h2,h3,h4,h5,h6,fun i hi=>⟨(h7 i hi).1,fun j hj=>⟨((h7 i hi).2 j hj).1,((h7 i hi).2 j hj).2.wider this⟩⟩,h8⟩
    ·have hr:=r.keep_ live t
     refine hr.goes (ImmKept.refl w G) (p:=fun a=>!(a.1 == o.length) || decide (a.2 < n)) ?_ fun q hq hpq=>⟨(hdom q).2 ⟨hq,hpq⟩,Agree.refl G q⟩
     unfold cutE at c2
     have key:∀ (e:Env),(e.all fun x=>x.2.refOk fun a=>!(a.1 == o.length) || decide (a.2 < n))=true→(get e t).refOk (fun a=>!(a.1 == o.length) || decide (a.2 < n))=true:=fun e=>by
      induction e with
      | nil=>intro _;simp [get,AV.refOk]
      | cons x e ih=>
       intro hall
       simp only [List.all_cons,Bool.and_eq_true] at hall
       obtain ⟨j,v⟩:=x
       simp only [get]
       split
       ·exact hall.1
       ·exact ih hall.2
     exact key _ c2
   ·injection hc with hc;subst hc
    exact ⟨g,sm,r.keep_ live,by simp [hh]⟩
def CodeSound (P:Program) (H:Hints) (O:Orc):Prop:=∀ (f:FuncId) (N:Nat) (D:List Deferred) (c:Code) (n:Nat) (live:List Nat) (st:St) (ex:Ex) (st':St),O.code (.loopAt n live (cCode P H f N c)) st=some (ex,st') →
 ∀ (w0:World) (G0:Gm) (h0:Heap) (w:World) (G:Gm) (a:Act),Goes w0 G0 h0 w G st.h→Sim w G st.h→st.h≠[]→EnvRel w G (dom st.h) st.env a→a.tmps.size=N→a.defers=D→hlen h0≤n →
  LoopW P c (Post N D w0 G0 h0 ex st') a w
theorem evC_ok {O:Orc} (hO:FnSound P O) {H:Hints} (hL:CodeSound P H O) {K:Cfg} {f:FuncId} {N:Nat} {D:List Deferred}:∀ (c:Code) (st:St) (ex:Ex) (st':St),evC K O (cCode P H f N c) st=some (ex,st') →
  ∀ (w0:World) (G0:Gm) (h0:Heap) (w:World) (G:Gm) (a:Act),Goes w0 G0 h0 w G st.h→Sim w G st.h→st.h≠[]→EnvRel w G (dom st.h) st.env a→a.tmps.size=N→a.defers=D→c.wp P (Post N D w0 G0 h0 ex st') a w
 | .skip,st,ex,st',he,w0,G0,h0,w,G,a,g,s,hn,r,hN,hd=>by
  simp only [cCode,evC,Option.some.injEq,Prod.mk.injEq] at he
  obtain ⟨rfl,rfl⟩:=he
  exact wp_skip ⟨G,s,g,r,hN,hd,rfl⟩
 | .label _,st,ex,st',he,w0,G0,h0,w,G,a,g,s,hn,r,hN,hd=>by
  simp only [cCode,evC,Option.some.injEq,Prod.mk.injEq] at he
  obtain ⟨rfl,rfl⟩:=he
  exact wp_label ⟨G,s,g,r,hN,hd,rfl⟩
 | .region id ops draw,st,ex,st',he,w0,G0,h0,w,G,a,g,s,hn,r,hN,hd=>by
  simp only [cCode] at he
  cases draw with
  | true=>
   simp only [if_true] at he
   exact draw_ok hO he g s hn r hN hd
  | false=>
   simp only [Bool.false_eq_true,if_false,evC] at he
   exact wp_region_list (evOps_ok hO _ _ _ _ he w0 G0 h0 w G a g s hn r hN hd)
 | .seq x y,st,ex,st',he,w0,G0,h0,w,G,a,g,s,hn,r,hN,hd=>by
  simp only [cCode,evC] at he
  have hx:=evC_ok hO hL (K:=K) (f:=f) (N:=N) (D:=D) x st
  refine wp_seq ?_
  split at he
  ·rename_i s1 h1
   refine wp_mono (hx _ _ h1 w0 G0 h0 w G a g s hn r hN hd) fun e a' w' p=>?_
   have hne:s1.h≠[]:=by
    obtain ⟨G',q1,q2,_⟩:=p
    intro e0
    have h1:=q2.depth;have h2:=g.depth
    rw [e0] at h1
    cases hs:st.h with
    | nil=>exact hn hs
    | cons q t=>rw [hs] at h2;simp at h1 h2;omega
   obtain ⟨G',q1,q2,q3,q4,q5,rfl⟩:=p
   exact evC_ok hO hL y s1 ex st' he w0 G0 h0 w' G' a' q2 q1 hne q3 q4 q5
  ·rename_i hnn
   refine wp_mono (hx ex st' he w0 G0 h0 w G a g s hn r hN hd) fun e a' w' p=>?_
   cases ex with
   | norm=>exact absurd he (hnn st')
   | exit id=>have p':=p;obtain ⟨G',q1,q2,q3,q4,q5,rfl⟩:=p;exact p'
   | ret=>have p':=p;obtain ⟨G',q1,q2,q3,q4,q5,rfl⟩:=p;exact p'
   | pan v=>have p':=p;obtain ⟨G',q1,q2,q3,q4,q5,x,rfl,_⟩:=p;exact p'
 | .cond x c1 c2,st,ex,st',he,w0,G0,h0,w,G,a,g,s,hn,r,hN,hd=>by
  simp only [cCode] at he
  split at he
  ·rename_i y hy
   simp only [evC] at he
   split at he
   ·rename_i t ht
    have hr:=opd_rel r hy
    rw [ht] at hr
    have hb:=bool_shape hr
    cases t with
    | true=>
     simp only [if_true] at he
     exact wp_cond_true hb (evC_ok hO hL c1 st ex st' he w0 G0 h0 w G a g s hn r hN hd)
    | false=>
     simp only [Bool.false_eq_true,if_false] at he
     exact wp_cond_false hb (evC_ok hO hL c2 st ex st' he w0 G0 h0 w G a g s hn r hN hd)
   ·cases he
  ·simp [evC] at he
 | .block id c,st,ex,st',he,w0,G0,h0,w,G,a,g,s,hn,r,hN,hd=>by
  simp only [cCode,evC] at he
  have hx:=evC_ok hO hL (K:=K) (f:=f) (N:=N) (D:=D) c st
  refine wp_block ?_
  split at he
  ·rename_i j s1 h1
   refine wp_mono (hx _ _ h1 w0 G0 h0 w G a g s hn r hN hd) fun e a' w' p=>?_
   obtain ⟨G',q1,q2,q3,q4,q5,rfl⟩:=p
   split at he
   ·rename_i hj
    simp only [Option.some.injEq,Prod.mk.injEq] at he
    obtain ⟨rfl,rfl⟩:=he
    simp only [Exit.inBlock,hj,if_true]
    exact ⟨G',q1,q2,q3,q4,q5,rfl⟩
   ·rename_i hj
    simp only [Option.some.injEq,Prod.mk.injEq] at he
    obtain ⟨rfl,rfl⟩:=he
    simp only [Exit.inBlock,hj,if_false]
    exact ⟨G',q1,q2,q3,q4,q5,rfl⟩
  ·rename_i hnn
   refine wp_mono (hx ex st' he w0 G0 h0 w G a g s hn r hN hd) fun e a' w' p=>?_
   cases ex with
   | exit j=>exact absurd he (hnn j st')
   | norm=>have p':=p;obtain ⟨G',q1,q2,q3,q4,q5,rfl⟩:=p;exact p'
   | ret=>have p':=p;obtain ⟨G',q1,q2,q3,q4,q5,rfl⟩:=p;exact p'
   | pan v=>have p':=p;obtain ⟨G',q1,q2,q3,q4,q5,x,rfl,_⟩:=p;exact p'
 | .loop c,st,ex,st',he,w0,G0,h0,w,G,a,g,s,hn,r,hN,hd=>by
  simp only [cCode,evC] at he
  exact loopW_loop (hL f N D c _ _ _ ex st' he w0 G0 h0 w G a g s hn (r.keep_ _) hN hd g.frame)
 | .exit id,st,ex,st',he,w0,G0,h0,w,G,a,g,s,hn,r,hN,hd=>by
  simp only [cCode,evC,Option.some.injEq,Prod.mk.injEq] at he
  obtain ⟨rfl,rfl⟩:=he
  exact wp_exit ⟨G,s,g,r,hN,hd,rfl⟩
 | .ret,st,ex,st',he,w0,G0,h0,w,G,a,g,s,hn,r,hN,hd=>by
  simp only [cCode,evC,Option.some.injEq,Prod.mk.injEq] at he
  obtain ⟨rfl,rfl⟩:=he
  exact wp_ret ⟨G,s,g,r,hN,hd,rfl⟩
 | .scope c,st,ex,st',he,w0,G0,h0,w,G,a,g,s,hn,r,hN,hd=>by
  simp only [cCode,evC] at he
  refine wp_scope_straight (wp_mono (evC_ok hO hL c st ex st' he w0 G0 h0 w G a g s hn r hN hd) fun e a' w' p=>?_)
  cases ex with
  | exit j=>have p':=p;obtain ⟨G',q1,q2,q3,q4,q5,rfl⟩:=p;exact p'
  | norm=>have p':=p;obtain ⟨G',q1,q2,q3,q4,q5,rfl⟩:=p;exact p'
  | ret=>have p':=p;obtain ⟨G',q1,q2,q3,q4,q5,rfl⟩:=p;exact p'
  | pan v=>have p':=p;obtain ⟨G',q1,q2,q3,q4,q5,x,rfl,_⟩:=p;exact p'
 | .rangeFunc _ _ _ _,st,ex,st',he,w0,G0,h0,w,G,a,g,s,hn,r,hN,hd=>by simp [cCode,evC] at he
 | .goto _,st,ex,st',he,w0,G0,h0,w,G,a,g,s,hn,r,hN,hd=>by simp [cCode,evC] at he
 | .refuse _,st,ex,st',he,w0,G0,h0,w,G,a,g,s,hn,r,hN,hd=>by simp [cCode,evC] at he
theorem codeSound_step {O:Orc} (hO:FnSound P O) {H:Hints} (hL:CodeSound P H O) (K:Cfg):CodeSound P H (step K O):=by
 intro f N D c n live st ex st' he w0 G0 h0 w G a g s hn r hN hd hle
 simp only [step,evC] at he
 have hx:=evC_ok hO hL (K:=K) (f:=f) (N:=N) (D:=D) c st
 refine loopW_step ?_
 split at he
 ·rename_i s1 h1
  split at he
  ·rename_i s2 hcut
   refine wp_mono (hx _ _ h1 w0 G0 h0 w G a g s hn r hN hd) fun e a' w' p=>?_
   obtain ⟨G',q1,q2,q3,q4,q5,rfl⟩:=p
   obtain ⟨k1,k2,k3,k4⟩:=cut_ok hcut q2 q1 q3 hle
   exact hL f N D c n live s2 ex st' he w0 G0 h0 w' G' a' k1 k2 k4 k3 q4 q5 hle
  ·cases he
 ·rename_i hnn
  refine wp_mono (hx ex st' he w0 G0 h0 w G a g s hn r hN hd) fun e a' w' p=>?_
  cases ex with
  | norm=>exact absurd he (hnn st')
  | exit j=>have p':=p;obtain ⟨G',q1,q2,q3,q4,q5,rfl⟩:=p;exact p'
  | ret=>have p':=p;obtain ⟨G',q1,q2,q3,q4,q5,rfl⟩:=p;exact p'
  | pan v=>have p':=p;obtain ⟨G',q1,q2,q3,q4,q5,x,rfl,_⟩:=p;exact p'
def resOne (tmps:Array Value):ResultVar→Sem Value
 | .tmp t=>pure (tmps.getD t undef)
 | .cell b t=>do loadVar t (← asAddr (tmps.getD b undef))
theorem run_cRes {w:World} {G:Gm} {h:Heap} {N:Nat} {e:Env} {a:Act} (s:Sim w G h) (r:EnvRel w G (dom h) e a):∀ {rs:List ResultVar} {cs:List CRes} {vs:List AV},cRes P N rs=some cs→evResL { env:=e,h:=h } cs=some vs →
  ∃ xs:List Value,(rs.mapM (resOne a.tmps)).run P w=.ok xs w∧xs.length=vs.length ∧
   ∀ i,i < vs.length→VRel w G (dom h) (vs.getD i .top) (xs.getD i undef)
 | [],cs,vs,hc,he=>by
  simp only [cRes,Option.some.injEq] at hc
  subst hc
  simp only [evResL,Option.some.injEq] at he
  subst he
  exact ⟨[],rfl,rfl,fun i hi=>by simp at hi⟩
 | .tmp t :: rs,cs,vs,hc,he=>by
  simp only [cRes] at hc
  split at hc
  ·rename_i cs' hcs
   injection hc with hc;subst hc
   simp only [evResL,evRes1] at he
   split at he
   ·rename_i vs' hvs
    injection he with he;subst he
    obtain ⟨xs,k1,k2,k3⟩:=run_cRes s r hcs hvs
    refine ⟨a.tmps.getD t undef :: xs,?_,by simp [k2],fun i hi=>?_⟩
    ·rw [List.mapM_cons]
     simp only [resOne,Sem.run_bind,Sem.run_pure,Result.andThen_ok,k1]
    ·cases i with
     | zero=>simpa using r t
     | succ i=>simpa using k3 i (by simpa using hi)
   ·cases he
  ·cases hc
 | .cell b t :: rs,cs,vs,hc,he=>by
  simp only [cRes] at hc
  split at hc
  ·rename_i ag sz cs' hsh hcs
   split at hc
   ·rename_i hsz
    injection hc with hc;subst hc
    simp only [evResL,evRes1] at he
    split at he
    ·rename_i v hv
     split at he
     ·rename_i vs' hvs
      injection he with he;subst he
      obtain ⟨xs,k1,k2,k3⟩:=run_cRes s r hcs hvs
      obtain ⟨y,l1,l2⟩:=loadFrom_ok (P:=P) s (r b) hsh hsz hv
      have hA:(do loadVar t (← asAddr (a.tmps.getD b undef)):Sem Value).run P w=.ok y w:=by
       unfold Instr.loadAt at l1
       generalize a.tmps.getD b undef=q at l1
       cases q with
       | pointer p=>
        cases p with
        | none=>simp [Instr.sureAddr] at l1
        | some p=>simpa [Instr.sureAddr,asAddr] using l1
       | _=>simp [Instr.sureAddr] at l1
      refine ⟨y :: xs,?_,by simp [k2],fun i hi=>?_⟩
      ·rw [List.mapM_cons,Sem.run_bind,show (resOne a.tmps (.cell b t)).run P w=.ok y w from hA]
       simp only [Result.andThen_ok,Sem.run_bind,k1,Sem.run_pure]
      ·cases i with
       | zero=>simpa using l2
       | succ i=>simpa using k3 i (by simpa using hi)
     ·cases he
    ·cases he
   ·cases hc
  ·cases hc
theorem run_results {fn:Func} {tmps:Array Value} {w:World} {xs:List Value} (h:(fn.results.toList.mapM (resOne tmps)).run P w=.ok xs w) :
  (results fn tmps).run P w=.ok (match xs with | [x]=>x | l=>.tuple l.toArray) w:=by
 have e:(fn.results.mapM (resOne tmps)).run P w=.ok xs.toArray w:=by
  rw [Array.mapM_eq_mapM_toList]
  simp [h]
 have e2:results fn tmps=(do let vs ← fn.results.mapM (resOne tmps);pure (if h:vs.size=1 then vs[0] else .tuple vs)):=by
  unfold results
  congr 1
 rw [e2,Sem.run_bind,e,Result.andThen_ok,Sem.run_pure]
 match xs with
 | []=>rfl
 | [x]=>rfl
 | x :: y :: l=>rfl
theorem evRes_ok {w:World} {G:Gm} {h:Heap} {N:Nat} {e:Env} {a:Act} (s:Sim w G h) (r:EnvRel w G (dom h) e a) {fn:Func} {cs:List CRes} {v:AV} (hc:cRes P N fn.results.toList=some cs) (he:evRes { env:=e,h:=h } cs=some v) :
  ∃ x,(results fn a.tmps).run P w=.ok x w∧VRel w G (dom h) v x:=by
 unfold evRes at he
 split at he
 ·rename_i u hu
  injection he with he;subst he
  obtain ⟨xs,k1,k2,k3⟩:=run_cRes s r hc hu
  match xs,k2 with
  | [x],_=>exact ⟨x,run_results k1,by simpa using k3 0 (by simp)⟩
 ·rename_i us hne hu
  injection he with he;subst he
  obtain ⟨xs,k1,k2,k3⟩:=run_cRes s r hc hu
  refine ⟨.tuple xs.toArray,?_,.tup _ _ _ (by simp [k2]) fun i hi=>by rw [toArray_getD];exact k3 i hi⟩
  rw [run_results k1]
  match xs,k2 with
  | [],_=>rfl
  | [x],k2=>
   match us,k2 with
   | [u],_=>exact absurd rfl (hne u)
  | x :: y :: l,_=>rfl
 ·cases he
theorem Sim.push {w:World} {G:Gm} {h:Heap} (s:Sim w G h):Sim w G ([] :: h):=by
 have hg:∀ a,hget ([] :: h) a=if a.1=h.length then none else hget h a:=fun a=>by simp [hget]
 have hd:∀ a,dom ([] :: h) a↔dom h a:=fun a=>by
  unfold dom
  rw [hg]
  split
  ·rename_i e
   simp only [Option.isSome_none,Bool.false_eq_true,false_iff]
   intro hh
   have:=dom_level (h:=h) (a:=a) hh
   omega
  ·rfl
 refine ⟨fun a B hB=>?_,fun x y b hx hy=>s.inj x y b ((hd x).1 hx) ((hd y).1 hy),s.imm,fun b x hx=>⟨(s.prv b x hx).1,fun q hq=>(s.prv b x hx).2 q ((hd q).1 hq)⟩⟩
 rw [hg] at hB
 split at hB
 ·cases hB
 ·exact (s.blk a B hB).kept (ImmKept.refl w G) (fun q hq=>⟨⟨hq.1,(hd q).2 hq.2⟩,Agree.refl G q⟩) ⟨rfl,rfl,rfl⟩ (fun _ _=>rfl) (fun _ _ _ hi=>hi) fun _ _ ht=>⟨ht,rfl,fun _ ho=>ho⟩
theorem dom_push {h:Heap} (a:Loc):dom ([] :: h) a↔dom h a:=by
 unfold dom
 simp only [hget]
 split
 ·rename_i e
  simp only [List.getElem?_nil,Option.isSome_none,Bool.false_eq_true,false_iff]
  intro hh
  have:=dom_level (h:=h) (a:=a) hh
  omega
 ·rfl
theorem merge_ok {w0:World} {G0:Gm} {h0:Heap} {w:World} {G:Gm} {f:List Blk} {o:Heap} (s:Sim w G (f :: o)) (g:Goes w0 G0 ([] :: h0) w G (f :: o)) {v v':AV} {h':Heap} {x:Value} (hv:VRel w G (dom (f :: o)) v x)
  (hp:merge v f o=some (v',h')):∃ G',Sim w G' h'∧Goes w0 G0 h0 w G' h'∧VRel w G' (dom h') v' x:=by
 cases o with
 | nil=>cases hp
 | cons gf o=>
  simp only [merge,Option.some.injEq,Prod.mk.injEq] at hp
  obtain ⟨rfl,rfl⟩:=hp
  have hdep:=g.depth
  simp only [List.length_cons] at hdep
  generalize hr:moved o.length gf.length=r
  have r_eq:∀ a,r a=if a.1=o.length+1 then (o.length,gf.length+a.2) else a:=fun a=>by rw [←hr];rfl
  let back:Loc→Loc:=fun a=>if a.1=o.length∧gf.length≤a.2 then (o.length+1,a.2 - gf.length) else a
  let G2:Gm:={ blk:=fun a=>G.blk (back a),len:=fun a=>G.len (back a),cap:=fun a=>G.cap (back a),imm:=G.imm,tl:=fun b=>(G.tl b).map fun x=>(r x.1,x.2) }
  have hg2:∀ a,hget ((gf++f.map (Blk.ren r)) :: o) a=if a.1=o.length∧gf.length≤a.2 then (f[a.2 - gf.length]?).map (Blk.ren r) else hget (gf :: o) a:=fun a=>by
   simp only [hget]
   by_cases h1:a.1=o.length
   ·simp only [h1,if_true,true_and]
    by_cases h2:gf.length≤a.2
    ·rw [if_pos h2,List.getElem?_append_right h2,List.getElem?_map]
    ·rw [if_neg h2,List.getElem?_append_left (by omega)]
   ·simp [h1]
  have lvl:∀ {a},dom (f :: gf :: o) a→a.1≤o.length+1:=fun h=>by have:=dom_level h;simp only [List.length_cons] at this;omega
  have old:∀ a,hget (f :: gf :: o) a=if a.1=o.length+1 then f[a.2]? else hget (gf :: o) a:=fun a=>by
   rw [hget];simp only [List.length_cons]
  have fwd:∀ q,dom (f :: gf :: o) q→dom ((gf++f.map (Blk.ren r)) :: o) (r q)∧back (r q)=q:=fun q hq=>by
   have hl:=lvl hq
   unfold dom at hq ⊢
   rw [old] at hq
   rw [hg2,r_eq]
   by_cases h1:q.1=o.length+1
   ·rw [if_pos h1] at hq ⊢
    obtain ⟨q1,q2⟩:=q
    simp only at h1
    subst h1
    refine ⟨by simpa using hq,?_⟩
    simp [back]
   ·rw [if_neg h1] at hq ⊢
    have h2:¬ (q.1=o.length∧gf.length≤q.2):=fun ⟨e1,e2⟩=>by
     rw [hget,if_pos e1,List.getElem?_eq_none e2] at hq
     cases hq
    rw [if_neg h2]
    refine ⟨hq,?_⟩
    simp [back,h2]
  have bwd:∀ a,dom ((gf++f.map (Blk.ren r)) :: o) a→dom (f :: gf :: o) (back a)∧r (back a)=a:=fun a ha=>by
   unfold dom at ha ⊢
   rw [hg2] at ha
   rw [old,r_eq]
   by_cases h1:a.1=o.length∧gf.length≤a.2
   ·rw [if_pos h1] at ha
    have hb:back a=(o.length+1,a.2 - gf.length):=by simp [back,h1]
    rw [hb]
    refine ⟨by simpa using ha,?_⟩
    obtain ⟨a1,a2⟩:=a
    simp only at h1
    simp [h1.1];omega
   ·rw [if_neg h1] at ha
    have hb:back a=a:=by simp [back,h1]
    rw [hb]
    have h2:¬ a.1=o.length+1:=fun e=>by
     have:dom (gf :: o) a:=ha
     have:=dom_level this
     simp only [List.length_cons] at this
     omega
    rw [if_neg h2,if_neg h2]
    exact ⟨ha,rfl⟩
  have agr:∀ q,dom (f :: gf :: o) q→G2.blk (r q)=G.blk q∧G2.len (r q)=G.len q∧G2.cap (r q)=G.cap q:=fun q hq=>by
   have:=(fwd q hq).2
   exact ⟨by show G.blk _=_;rw [this],by show G.len _=_;rw [this],by show G.cap _=_;rw [this]⟩
  have hI:∀ b o,G2.imm b o↔G.imm b o:=fun _ _=>Iff.rfl
  have htl:∀ b,G2.tl b≠none→G.tl b≠none:=fun b hb e=>hb (by show (G.tl b).map _=none;rw [e];rfl)
  have hpu:∀ b,Held G0 ([] :: h0) b→Held G0 h0 b:=fun b hk=>hk.imp (fun ⟨q,hq,e⟩=>⟨q,(dom_push q).1 hq,e⟩) id
  refine ⟨G2,⟨fun a B hB=>?_,fun x y b hx hy ex ey=>?_,s.imm,fun b x hx=>?_⟩,⟨g.os,g.tape,g.output,g.size,fun b hb hn=>g.heap b hb fun hk=>hn (hpu b hk),fun b hk hb=>?_,g.imm,fun q hq=>?_,by simp only [List.length_cons];omega,?_,
   fun b o hb hn=>g.nimm b o hb fun hk=>hn (hpu b hk)⟩,?_⟩
  rotate_left 2
  ·have h1:G.tl b≠none:=htl b (by rw [hx];simp)
   cases hy:G.tl b with
   | none=>exact absurd hy h1
   | some y=>
    obtain ⟨k1,k2⟩:=s.prv b y hy
    exact ⟨k1,fun q hq e=>k2 (back q) (bwd q hq).1 e⟩
  rotate_right 2
  ·
   rw [hg2] at hB
   by_cases h1:a.1=o.length∧gf.length≤a.2
   ·rw [if_pos h1,Option.map_eq_some_iff] at hB
    obtain ⟨B0,hB0,rfl⟩:=hB
    have hb:back a=(o.length+1,a.2 - gf.length):=by simp [back,h1]
    have h2:hget (f :: gf :: o) (o.length+1,a.2 - gf.length)=some B0:=by rw [old];simpa using hB0
    have hd:=dom_of h2
    have h3:=s.blk _ B0 h2
    refine h3.ren_ (r:=r) hI (fun q hq=>⟨⟨?_,(fwd q hq.2).1⟩,agr q hq.2⟩) ⟨by show G.blk _=_;rw [hb],by show G.len _=_;rw [hb],by show G.cap _=_;rw [hb]⟩ fun b' i ht=>by
     show (G.tl b').map _=_
     rw [ht]
     have e1:r (o.length+1,a.2 - gf.length)=a:=by rw [←hb];exact (bwd a (dom_of (B:=B0.ren r) (by rw [hg2,if_pos h1,hB0];rfl))).2
     simp only [Option.map_some,e1]
    have:=lvl hq.2
    rw [r_eq]
    split
    ·simp only;omega
    ·rename_i hne;omega
   ·rw [if_neg h1] at hB
    have hb:back a=a:=by simp [back,h1]
    have ha1:a.1≤o.length:=by have:=dom_level (dom_of hB);simp only [List.length_cons] at this;omega
    have h2:hget (f :: gf :: o) a=some B:=by rw [old,if_neg (by omega)];exact hB
    refine (s.blk a B h2).kept (ImmKept.refl w G) (fun q hq=>?_) ⟨by show G.blk _=_;rw [hb],by show G.len _=_;rw [hb],by show G.cap _=_;rw [hb]⟩ (fun _ _=>rfl) (fun _ _ _ hi=>hi) fun b' i ht=>⟨by
     show (G.tl b').map _=_
     rw [ht]
     have e1:r a=a:=by rw [r_eq,if_neg (by omega)]
     simp only [Option.map_some,e1],rfl,fun _ ho=>ho⟩
    have hq1:q.1≤a.1:=hq.1
    have e1:r q=q:=by rw [r_eq,if_neg (by omega)]
    obtain ⟨k1,k2⟩:=fwd q hq.2
    rw [e1] at k1 k2
    have k3:=agr q hq.2
    rw [e1] at k3
    exact ⟨⟨hq1,k1⟩,.inl k3⟩
  ·have hx':=bwd x hx
   have hy':=bwd y hy
   have:=s.inj _ _ b hx'.1 hy'.1 ex ey
   rw [←hx'.2,←hy'.2,this]
  ·refine hpu b (g.img b ?_ hb)
   rcases hk with ⟨a,ha,e⟩ | hk
   ·exact .of (bwd a ha).1 e
   ·exact .inr (htl b hk)
  ·obtain ⟨e0,e1⟩:=g.loc q ((dom_push q).2 hq)
   have hl:=dom_level hq
   have er:r q=q:=by rw [r_eq,if_neg (by omega)]
   obtain ⟨k1,k2⟩:=fwd q e0
   rw [er] at k1 k2
   have k3:=agr q e0
   rw [er] at k3
   exact ⟨k1,e1.trans (.inl k3)⟩
  ·cases h0 with
   | nil=>simp [hlen]
   | cons f0 o0=>
    show f0.length≤(gf++f.map (Blk.ren r)).length
    cases hf:f0.length with
    | zero=>omega
    | succ m=>
     have hq:dom (f0 :: o0) (o0.length,m):=by rw [dom_frame];simp [hf]
     have:=(g.loc (o0.length,m) ((dom_push _).2 hq)).1
     simp only [List.length_cons] at hdep
     unfold dom at this
     rw [old,if_neg (by simp only;omega),hget,if_pos (by simp only;omega)] at this
     have hlt:m < gf.length:=by
      rcases Nat.lt_or_ge m gf.length with h | h
      ·exact h
      ·rw [List.getElem?_eq_none h] at this;cases this
     simp only [List.length_append]
     omega
  ·exact hv.ren_ (fun b o=>(hI b o).2) fun q hq=>⟨(fwd q hq).1,agr q hq⟩
theorem pop_ok {w0:World} {G0:Gm} {h0:Heap} {w:World} {G:Gm} {h:Heap} (s:Sim w G h) (g:Goes w0 G0 ([] :: h0) w G h) {v v':AV} {h':Heap} {x:Value} (hv:VRel w G (dom h) v x) (hp:pop v h=some (v',h')) :
  ∃ G',Sim w G' h'∧Goes w0 G0 h0 w G' h'∧VRel w G' (dom h') v' x:=by
 unfold pop at hp
 split at hp
 ·rename_i u f o hvw
  split at hp
  ·rename_i href
   simp only [Option.some.injEq,Prod.mk.injEq] at hp
   obtain ⟨rfl,rfl⟩:=hp
   obtain ⟨G',k1,k2,k3⟩:=view_ok _ s hv hvw
   have g':=g.trans k2
   have hd:∀ q,dom o q↔dom (f :: o) q∧q.1 < o.length:=fun q=>by
    rw [dom_frame]
    constructor
    ·intro h
     have:=dom_level h
     rw [if_neg (by omega)]
     exact ⟨h,this⟩
    ·rintro ⟨h,hl⟩
     rwa [if_neg (by omega)] at h
   have hdep:=g'.depth
   simp only [List.length_cons] at hdep
   have hpu:∀ b,Held G0 ([] :: h0) b→Held G0 h0 b:=fun b hk=>hk.imp (fun ⟨q,hq,e⟩=>⟨q,(dom_push q).1 hq,e⟩) id
   refine ⟨G',⟨fun q B hB=>?_,fun x y b hx hy=>k1.inj x y b ((hd x).1 hx).1 ((hd y).1 hy).1,k1.imm,fun b x hx=>⟨(k1.prv b x hx).1,fun q hq=>(k1.prv b x hx).2 q ((hd q).1 hq).1⟩⟩,⟨g'.os,g'.tape,g'.output,g'.size,fun b hb hn=>g'.heap b hb fun hk=>hn (hpu b hk),
    fun b hk hb=>?_,g'.imm,fun q hq=>?_,by omega,?_,fun b o hb hn=>g'.nimm b o hb fun hk=>hn (hpu b hk)⟩,?_⟩
   ·have hq:dom o q:=dom_of hB
    have hB':hget (f :: o) q=some B:=by
     have:=dom_level hq
     simp only [hget]
     rw [if_neg (by omega)]
     exact hB
    exact (k1.blk q B hB').kept (ImmKept.refl w G') (fun y hy=>⟨⟨hy.1,(hd y).2 ⟨hy.2,by have:=hy.1;have:=dom_level hq;omega⟩⟩,Agree.refl G' y⟩) ⟨rfl,rfl,rfl⟩ (fun _ _=>rfl) (fun _ _ _ hi=>hi) fun _ _ ht=>⟨ht,rfl,fun _ ho=>ho⟩
   ·exact hpu b (g'.img b (hk.imp (fun ⟨q,hq,e⟩=>⟨q,((hd q).1 hq).1,e⟩) id) hb)
   ·obtain ⟨e0,e1⟩:=g'.loc q ((dom_push q).2 hq)
    refine ⟨(hd q).2 ⟨e0,?_⟩,e1⟩
    have:=dom_level hq
    omega
   ·
    cases h0 with
    | nil=>simp [hlen]
    | cons f0 o0=>
     cases o with
     | nil=>simp at hdep
     | cons f1 o1=>
      show f0.length≤f1.length
      cases hf:f0.length with
      | zero=>omega
      | succ m=>
       have hq:dom (f0 :: o0) (o0.length,m):=by rw [dom_frame];simp [hf]
       have:=(g'.loc (o0.length,m) ((dom_push _).2 hq)).1
       have hq2:=(hd (o0.length,m)).2 ⟨this,by simp only [List.length_cons] at hdep ⊢;omega⟩
       rw [dom_frame] at hq2
       simp only [List.length_cons] at hdep
       rw [if_pos (by omega)] at hq2
       exact hq2
   ·exact k3.goes (ImmKept.refl w G') href fun q hq hpq=>⟨(hd q).2 ⟨hq,by simpa using hpq⟩,Agree.refl G' q⟩
  ·obtain ⟨G',k1,k2,k3⟩:=view_ok _ s hv hvw
   exact merge_ok k1 (g.trans k2) k3 hp
 ·cases hp
theorem popK_ok {w0:World} {G0:Gm} {h0:Heap} {w:World} {G:Gm} {h:Heap} (s:Sim w G h) (g:Goes w0 G0 ([] :: h0) w G h) {k:Bool} {v v':AV} {h':Heap} {x:Value} (hv:VRel w G (dom h) v x) (hp:popK k v h=some (v',h')) :
  ∃ G',Sim w G' h'∧Goes w0 G0 h0 w G' h'∧VRel w G' (dom h') v' x:=by
 unfold popK at hp
 split at hp
 ·split at hp
  ·exact merge_ok s g hv hp
  ·cases hp
 ·exact pop_ok s g hv hp
theorem evRes1_keep (s:St) (r:CRes):evRes1 s r.keep=evRes1 s r:=by cases r<;>rfl
theorem evResL_keep (s:St):∀ rs:List CRes,evResL s (rs.map CRes.keep)=evResL s rs
 | []=>rfl
 | r :: rs=>by simp only [List.map_cons,evResL,evRes1_keep,evResL_keep s rs]
theorem evRes_kept (s:St) (k:Bool) (rs:List CRes):evRes s (keptR k rs)=evRes s rs:=by
 unfold keptR
 split
 ·unfold evRes
  rw [evResL_keep]
 ·rfl
theorem get_envOf:∀ (args:List AV) (k t:Nat),get (envOf k args) t=if k≤t then args.getD (t - k) .top else .top
 | [],k,t=>by simp [envOf,get]
 | a :: r,k,t=>by
  simp only [envOf,get]
  by_cases c:k=t
  ·subst c;simp
  ·rw [if_neg c,get_envOf r (k+1) t]
   by_cases c2:k≤t
   ·rw [if_pos (by omega),if_pos c2]
    obtain ⟨d,rfl⟩:∃ d,t=k+1+d:=⟨t - (k+1),by omega⟩
    rw [show k+1+d - (k+1)=d by omega,show k+1+d - k=d+1 by omega]
    rfl
   ·rw [if_neg (by omega),if_neg c2]
end Go.Ab
/-
  Functions: deferred calls, results;the evaluator grows with its oracle.
-/
namespace Go.Ab
open Go.RowKit
variable {P:Program}
def DefRel (w:World) (G:Gm) (L:Loc→Prop) (dv:Option (FuncId×List AV)) (ds:List Deferred):Prop:=
 match dv with
 | none=>ds=[]
 | some (g,cap)=>∃ va:Array Value,ArgsRel w G L cap va∧ds=[{ target:=.fn (.func g) va,args:=#[] }]
def ExRel (w:World) (G:Gm) (L:Loc→Prop) (ex:Ex) (e:Exit):Prop:=
 match ex with
 | .norm=>e=.normal
 | .exit id=>e=.exit id
 | .ret=>e=.ret
 | .pan v=>∃ x,e=.panic [{ v:=x,recovered:=false }]∧VRel w G L v x
def PostB (N:Nat) (w:World) (G:Gm) (h:Heap) (ex:Ex) (s:St) (dv:Option (FuncId×List AV)):Exit→Act→World→Prop:=fun e a' w'=>
 ∃ G',Sim w' G' s.h∧Goes w G h w' G' s.h∧EnvRel w' G' (dom s.h) s.env a'∧a'.tmps.size=N∧ExRel w' G' (dom s.h) ex e∧DefRel w' G' (dom s.h) dv a'.defers
theorem PostB.of {N:Nat} {w:World} {G:Gm} {h:Heap} {ex:Ex} {s:St} {e:Exit} {a:Act} {w':World} (p:Post N [] w G h ex s e a w'):PostB N w G h ex s none e a w':=by
 obtain ⟨G',q1,q2,q3,q4,q5,q6⟩:=p
 exact ⟨G',q1,q2,q3,q4,q6,q5⟩
theorem spine_seq {O:Orc} (hO:FnSound P O) {H:Hints} (hL:CodeSound P H O) {K:Cfg} {f:FuncId} {N:Nat} {x y:Code}
  (ih:∀ (st:St) (ex:Ex) (st':St) (dv:Option (FuncId×List AV)),evB K O (cSpine P H f N y) st=some (ex,st',dv)→∀ (w0:World) (G0:Gm) (h0:Heap) (w:World) (G:Gm) (a:Act),Goes w0 G0 h0 w G st.h→Sim w G st.h→st.h≠[] →
   EnvRel w G (dom st.h) st.env a→a.tmps.size=N→a.defers=[]→y.wp P (PostB N w0 G0 h0 ex st' dv) a w)
  {st:St} {ex:Ex} {st':St} {dv:Option (FuncId×List AV)} (he:evB K O (.seq (cCode P H f N x) (cSpine P H f N y)) st=some (ex,st',dv)) {w0:World} {G0:Gm} {h0:Heap} {w:World} {G:Gm} {a:Act} (g:Goes w0 G0 h0 w G st.h) (s:Sim w G st.h)
  (hn:st.h≠[]) (r:EnvRel w G (dom st.h) st.env a) (hN:a.tmps.size=N) (hd:a.defers=[]):(Code.seq x y).wp P (PostB N w0 G0 h0 ex st' dv) a w:=by
 have hx:=evC_ok hO hL (K:=K) (f:=f) (N:=N) (D:=[]) x st
 simp only [evB] at he
 refine wp_seq ?_
 split at he
 ·rename_i s1 h1
  refine wp_mono (hx _ _ h1 w0 G0 h0 w G a g s hn r hN hd) fun e a' w' p=>?_
  have hne:s1.h≠[]:=by
   obtain ⟨G',q1,q2,_⟩:=p
   intro e0
   have h1:=q2.depth;have h2:=g.depth
   rw [e0] at h1
   cases hs:st.h with
   | nil=>exact hn hs
   | cons q t=>rw [hs] at h2;simp at h1 h2;omega
  obtain ⟨G',q1,q2,q3,q4,q5,rfl⟩:=p
  exact ih s1 ex st' dv he w0 G0 h0 w' G' a' q2 q1 hne q3 q4 q5
 ·rename_i ex1 s1 hnn h1
  simp only [Option.some.injEq,Prod.mk.injEq] at he
  obtain ⟨rfl,rfl,rfl⟩:=he
  refine wp_mono (hx _ _ h1 w0 G0 h0 w G a g s hn r hN hd) fun e a' w' p=>?_
  have p':=PostB.of p
  cases ex1 with
  | norm=>exact absurd rfl hnn
  | exit id=>obtain ⟨G',q1,q2,q3,q4,q5,rfl⟩:=p;exact p'
  | ret=>obtain ⟨G',q1,q2,q3,q4,q5,rfl⟩:=p;exact p'
  | pan v=>obtain ⟨G',q1,q2,q3,q4,q5,x,rfl,_⟩:=p;exact p'
 ·cases he
theorem isDefer_parts {H:Hints} {f:FuncId} {N:Nat} {ops:Array Oper} {d:Nat} {q:POp} (h:isDefer P H f N ops=some (d,q)) :
  ∃ o1 o2 c,ops.toList=[o1,o2]∧o1.dst=some d∧o1.guard=none∧cOp P H f o1=.p q∧o2.op=.defer c∧o2.guard=none∧o2.dst=none∧c.callee=.value (.tmp d)∧c.args.toList=[]∧d < N:=by
 unfold isDefer at h
 split at h
 ·rename_i o1 o2 hops
  split at h
  ·rename_i d' q' c h1 h2 h3 h4 h5 h6
   split at h
   ·rename_i d2 h7 h8
    split at h
    ·rename_i hc
     simp only [Option.some.injEq,Prod.mk.injEq] at h
     obtain ⟨rfl,rfl⟩:=h
     obtain ⟨rfl,hc⟩:=hc
     exact ⟨o1,o2,c,hops,h1,h2,h3,h4,h5,h6,h7,h8,hc⟩
    ·cases h
   ·cases h
  ·cases h
 ·cases h
theorem spine_code {O:Orc} (hO:FnSound P O) {H:Hints} (hL:CodeSound P H O) {K:Cfg} {f:FuncId} {N:Nat} {c:Code} {st:St} {ex:Ex} {st':St} {dv:Option (FuncId×List AV)}
  (he:evB K O (.code (cCode P H f N c)) st=some (ex,st',dv)) {w0:World} {G0:Gm} {h0:Heap} {w:World} {G:Gm} {a:Act} (g:Goes w0 G0 h0 w G st.h) (s:Sim w G st.h)
  (hn:st.h≠[]) (r:EnvRel w G (dom st.h) st.env a) (hN:a.tmps.size=N) (hd:a.defers=[]):c.wp P (PostB N w0 G0 h0 ex st' dv) a w:=by
 simp only [evB] at he
 split at he
 ·rename_i ex1 s1 h1
  simp only [Option.some.injEq,Prod.mk.injEq] at he
  obtain ⟨rfl,rfl,rfl⟩:=he
  exact wp_mono (evC_ok hO hL (K:=K) (f:=f) (N:=N) (D:=[]) c st _ _ h1 w0 G0 h0 w G a g s hn r hN hd) fun e a' w' p=>PostB.of p
 ·cases he
theorem spine_ok {O:Orc} (hO:FnSound P O) {H:Hints} (hL:CodeSound P H O) {K:Cfg} {f:FuncId} {N:Nat}:∀ (c:Code) (st:St) (ex:Ex) (st':St) (dv:Option (FuncId×List AV)),evB K O (cSpine P H f N c) st=some (ex,st',dv) →
  ∀ (w0:World) (G0:Gm) (h0:Heap) (w:World) (G:Gm) (a:Act),Goes w0 G0 h0 w G st.h→Sim w G st.h→st.h≠[]→EnvRel w G (dom st.h) st.env a→a.tmps.size=N→a.defers=[]→c.wp P (PostB N w0 G0 h0 ex st' dv) a w
 | .seq x y,st,ex,st',dv,he,w0,G0,h0,w,G,a,g,s,hn,r,hN,hd=>by
  have ih:=spine_ok hO hL (K:=K) (f:=f) (N:=N) y
  have gen:evB K O (.seq (cCode P H f N x) (cSpine P H f N y)) st=some (ex,st',dv)→(Code.seq x y).wp P (PostB N w0 G0 h0 ex st' dv) a w:=fun he=>spine_seq hO hL ih he g s hn r hN hd
  cases x with
  | region id ops draw=>
   cases draw with
   | true=>exact gen he
   | false=>
    simp only [cSpine] at he
    cases hdf:isDefer P H f N ops with
    | none=>rw [hdf] at he;exact gen he
    | some dq=>
     obtain ⟨d,q⟩:=dq
     rw [hdf] at he
     simp only [evB] at he
     obtain ⟨o1,o2,c,hops,h1,h2,h3,h4,h5,h6,h7,h8,hdN⟩:=isDefer_parts hdf
     split at he
     ·rename_i gid cap hv
      split at he
      ·rename_i ex1 s1 hc
       simp only [Option.some.injEq,Prod.mk.injEq] at he
       obtain ⟨rfl,rfl,rfl⟩:=he
       refine wp_seq (wp_region_list ?_)
       rw [hops]
       unfold wpList
       rw [if_pos (by unfold Region.wanted;rw [h2])]
       refine .inl (op_pure h3 r hv fun x hx=>?_)
       have hd':d < a.tmps.size:=by rw [hN];exact hdN
       have hA:c.args=#[]:=by rw [←Array.toArray_toList (xs:=c.args),h8]
       have hev:(a.put o1.dst x).eval (.tmp d)=x:=by rw [h1];simp [Act.put,Act.eval,hd']
       obtain ⟨va,vb,rfl,ha1,hb1,_,hb2⟩:=fn_shape hx
       have hva:va=#[]:=Array.eq_empty_of_size_eq_zero (by simpa using ha1)
       subst hva
       unfold wpList
       rw [if_pos (by unfold Region.wanted;rw [h5])]
       refine .inl ?_
       have hrun:(execOp (a.put o1.dst (.func (.func gid) #[] vb)).eval o2).run P w=.ok (.defer { target:=.fn (.func gid) vb,args:=#[] }) w:=by
        simp only [execOp,h4,resolve,h7,hA,hev,List.map_toArray,List.map_nil,Deferred.ofValue,Sem.run_bind,Sem.run_pure,Result.andThen_ok]
        rfl
       unfold Oper.wp
       rw [hrun,Oper.upon_defer,h6]
       simp only [Act.put]
       unfold wpList
       simp only [Exit.then]
       have hcode:=evC_ok hO hL (K:=K) (f:=f) (N:=N) (D:=[{ target:=.fn (.func gid) vb,args:=#[] }]) y _ _ _ hc
       have r':EnvRel w G (dom st.h) (set st.env d (.fn (.func gid) [] cap)) (a.put (some d) (.func (.func gid) #[] vb)):=r.put_ (d:=some d) hx (by simp [inN,hd'])
       rw [h1]
       refine wp_mono (hcode w G st.h w G _ (Goes.refl _ _ _) s hn r' (by simp [Act.put,hN]) (by simp [Act.put,hd])) fun e a' w' p=>?_
       obtain ⟨G',q1,q2,q3,q4,q5,q6⟩:=p
       exact ⟨G',q1,g.trans q2,q3,q4,q6,vb,⟨hb1,fun i hi=>(hb2 i hi).along q2⟩,q5⟩
      ·cases he
     ·cases he
  | _=>exact gen he
 | .skip,st,ex,st',dv,he,w0,G0,h0,w,G,a,g,s,hn,r,hN,hd=>spine_code hO hL he g s hn r hN hd
 | .label _,st,ex,st',dv,he,w0,G0,h0,w,G,a,g,s,hn,r,hN,hd=>spine_code hO hL he g s hn r hN hd
 | .region _ _ _,st,ex,st',dv,he,w0,G0,h0,w,G,a,g,s,hn,r,hN,hd=>spine_code hO hL he g s hn r hN hd
 | .cond _ _ _,st,ex,st',dv,he,w0,G0,h0,w,G,a,g,s,hn,r,hN,hd=>spine_code hO hL he g s hn r hN hd
 | .block _ _,st,ex,st',dv,he,w0,G0,h0,w,G,a,g,s,hn,r,hN,hd=>spine_code hO hL he g s hn r hN hd
 | .loop _,st,ex,st',dv,he,w0,G0,h0,w,G,a,g,s,hn,r,hN,hd=>spine_code hO hL he g s hn r hN hd
 | .exit _,st,ex,st',dv,he,w0,G0,h0,w,G,a,g,s,hn,r,hN,hd=>spine_code hO hL he g s hn r hN hd
 | .ret,st,ex,st',dv,he,w0,G0,h0,w,G,a,g,s,hn,r,hN,hd=>spine_code hO hL he g s hn r hN hd
 | .scope _,st,ex,st',dv,he,w0,G0,h0,w,G,a,g,s,hn,r,hN,hd=>spine_code hO hL he g s hn r hN hd
 | .rangeFunc _ _ _ _,st,ex,st',dv,he,w0,G0,h0,w,G,a,g,s,hn,r,hN,hd=>spine_code hO hL he g s hn r hN hd
 | .goto _,st,ex,st',dv,he,w0,G0,h0,w,G,a,g,s,hn,r,hN,hd=>spine_code hO hL he g s hn r hN hd
 | .refuse _,st,ex,st',dv,he,w0,G0,h0,w,G,a,g,s,hn,r,hN,hd=>spine_code hO hL he g s hn r hN hd
theorem CallsD.mono' {f:FuncId} {args:Array Value} {u:FrameMode} {w:World} {R R':Ending→FrameMode→World→Prop} (h:CallsD P f args u w R) (k:∀ e u' w',R e u' w'→R' e u' w'):CallsD P f args u w R':=
 fun c cs hc=>let ⟨e,u',w',fr,h1,h2⟩:=h c cs hc;⟨e,u',w',fr,k _ _ _ h1,h2⟩
theorem args_env {w:World} {G:Gm} {h:Heap} {args:List AV} {xs:Array Value} (hargs:ArgsRel w G (dom h) args xs) (n:Nat) (D:List Deferred) :
  EnvRel w G (dom ([] :: h)) (envOf 0 args) { tmps:=xs++Array.replicate (n - xs.size) undef,defers:=D }:=fun t=>by
 rw [get_envOf,if_pos (Nat.zero_le t),Nat.sub_zero]
 by_cases c:t < args.length
 ·have:=hargs.2 t c
  have e1:(xs++Array.replicate (n - xs.size) undef).getD t undef=xs.getD t undef:=by
   simp only [Array.getD_eq_getD_getElem?]
   rw [Array.getElem?_append_left (by rw [hargs.1];exact c)]
  rw [e1]
  exact this.wider fun q hq=>(dom_push q).2 hq
 ·have:args.getD t .top=.top:=by simp [List.getD_eq_getElem?_getD,List.getElem?_eq_none (Nat.le_of_not_lt c)]
  rw [this]
  exact .top _ _
theorem dFun_parts {H:Hints} {g:FuncId} {df:DFun} (h:dFun P H g=some df):∃ fn id ops y o1 o2 c,P.funcs[g]?=some fn∧fn.body=some (.seq (.region id ops false) y)∧fn.results.toList=[]∧ops.toList=[o1,o2] ∧
  o1.dst=some df.d1∧o1.guard=none∧o1.op=.call c∧c.callee=.builtin .recover∧c.args.toList=[]∧o2.dst=some df.d2∧o2.guard=none∧o2.op=.assign (.tmp df.d1)∧df.d1 < fn.ntmps∧df.d2 < fn.ntmps ∧
  (fn.name == "runtime.NumGoroutine") = false ∧ df.rest = cCode P H g fn.ntmps y ∧ df.nt = fn.ntmps := by
 unfold dFun at h
 split at h
 ·cases h
 ·rename_i fn hfn
  split at h
  ·rename_i id ops y hbody hres
   split at h
   ·rename_i o1 o2 hops
    split at h
    ·rename_i d1 c d2 d h1 h2 h3 h4 h5 h6
     split at h
     ·rename_i h7 h8
      split at h
      ·rename_i hc
       obtain ⟨rfl,hc1,hc2,hc3⟩:=hc
       injection h with h
       subst h
       exact ⟨fn,id,ops,y,o1,o2,c,hfn,hbody,hres,hops,h1,h2,h3,h7,h8,h4,h5,h6,hc1,hc2,hc3,rfl,rfl⟩
      ·cases h
     ·cases h
    ·cases h
   ·cases h
  ·cases h
theorem def_ok {O:Orc} (hO:FnSound P O) {H:Hints} (hL:CodeSound P H O) {K:Cfg} (hK:K.dfn=dFun P H) {g:FuncId} {cap:List AV} {pv:Option AV} {h h2:Heap} (he:evDef K O g cap pv h=some h2)
  {w:World} {G:Gm} {xs:Array Value} (s:Sim w G h) (hargs:ArgsRel w G (dom h) cap xs) {u:FrameMode}
  (hu:(pv=none∧u=.returning)∨∃ v x,pv=some v∧VRel w G (dom h) v x∧u=.panicking [{ v:=x,recovered:=false }]) :
  (∀ w,(callFunc g xs).run P w=.ok (.enter g xs) w) ∧
  CallsD P g xs u w (fun e u' w'=>∃ G',Sim w' G' h2∧Goes w G h w' G' h2∧(∃ v,e=.returned v)∧settle u'=.returning):=by
 unfold evDef at he
 rw [hK] at he
 cases hdf:dFun P H g with
 | none=>rw [hdf] at he;cases he
 | some df=>
  rw [hdf] at he
  simp only at he
  obtain ⟨fn,id,ops,y,o1,o2,c,hfn,hbody,hres,hops,h1,h2',h3,h4,h5,h6,h7,h8,hd1,hd2,hnm,hrest,hnt⟩:=dFun_parts hdf
  split at he
  case isFalse=>cases he
  rename_i hle
  refine ⟨fun w=>?_,callsD_of_wpS hfn hbody fun c₀ cs hc=>?_⟩
  ·unfold callFunc
   simp only [Sem.run_bind,run_program,Result.andThen_ok,hfn]
   rw [hnm]
   simp [hbody]
  ·have hN:(xs++Array.replicate (fn.ntmps - xs.size) undef).size=fn.ntmps:=by
    have:=hargs.1
    rw [hnt] at hle
    simp;omega
   obtain ⟨rv,cs1,hrec,hrv,hset⟩:∃ rv cs1,(match recoverD (c₀ :: cs) with | some (v,cs')=>(v,cs') | none=>(Value.nilIface,c₀ :: cs))=(rv,cs1)∧VRel w G (dom ([] :: h)) (pv.getD .nili) rv ∧
     ∃ u',cs1={ c₀ with mode:=u' } :: cs∧settle u'=.returning:=by
    rcases hu with ⟨rfl,rfl⟩ | ⟨v,x,rfl,hx,rfl⟩
    ·refine ⟨.nilIface,c₀ :: cs,by simp [recoverD,hc],.nili _,.returning,?_,rfl⟩
     cases c₀;simp_all
    ·refine ⟨x,{ c₀ with mode:=.panicking [{ v:=x,recovered:=true }] } :: cs,by simp [recoverD,hc],?_,_,rfl,rfl⟩
     exact hx.wider fun q hq=>(dom_push q).2 hq
   obtain ⟨u',hcs1,hset⟩:=hset
   have hsz:ops.size=2:=by rw [←Array.length_toList,hops];rfl
   have hop0:ops[0]?=some o1:=by rw [←Array.getElem?_toList,hops];rfl
   have hop1:ops[1]?=some o2:=by rw [←Array.getElem?_toList,hops];rfl
   have hA:c.args=#[]:=by rw [←Array.toArray_toList (xs:=c.args),h5]
   have hrng:List.range ops.size=[0,1]:=by rw [hsz];rfl
   refine wpS_seq (wpS_region ?_)
   rw [hrng]
   generalize hR:(fun (e:Ending) (u':FrameMode) (w':World)=>∃ G',Sim w' G' h2∧Goes w G h w' G' h2∧(∃ v,e=.returned v)∧settle u'=.returning)=R
   have r0:=args_env (D:=[]) hargs fn.ntmps
   generalize ha:({ tmps:=xs++Array.replicate (fn.ntmps - xs.size) undef,defers:=[] }:Act)=a0 at r0
   have ha1:a0.tmps.size=fn.ntmps:=by rw [←ha];exact hN
   have ha2:a0.defers=[]:=by rw [←ha]
   have hrun0:(execOp a0.eval o1).run P w=.ok .recover w:=by
    simp only [execOp,h3,resolve,h4,hA,List.map_toArray,List.map_nil,Sem.run_bind,Sem.run_pure,Result.andThen_ok,invoke]
    rfl
   have last:∀ cs',cs'=cs1→wpOpsS P ops (Exit.thenS (y.wpS P (bodyPostS P fn c₀ cs R)) (bodyPostS P fn c₀ cs R)) [1] (a0.put o1.dst rv) cs' w:=by
    rintro cs' rfl
    have hd1':df.d1 < a0.tmps.size:=by omega
    have hev:(a0.put o1.dst rv).eval (.tmp df.d1)=rv:=by rw [h1];simp [Act.put,Act.eval,hd1']
    have hrun1:(execOp (a0.put o1.dst rv).eval o2).run P w=.ok (.value rv) w:=by
     simp only [execOp,h8,hev,Sem.run_pure]
    simp only [wpOpsS,hop1]
    rw [if_pos (by unfold Region.wanted;rw [h7])]
    rw [hrun1]
    simp only [Oper.upon_value,Exit.thenS]
    refine wpS_of_wp ?_
    have r2:EnvRel w G (dom ([] :: h)) (set (set (envOf 0 cap) df.d1 (pv.getD .nili)) df.d2 (pv.getD .nili)) ((a0.put o1.dst rv).put o2.dst rv):=by
     rw [h1,h6]
     exact (r0.put_ (d:=some df.d1) hrv (by simp [inN,ha1,hd1])).put_ (d:=some df.d2) hrv (by simp [inN,Act.put,ha1,hd2])
    have hsz2:((a0.put o1.dst rv).put o2.dst rv).tmps.size=fn.ntmps:=by rw [put_size,put_size,ha1]
    have hdd2:((a0.put o1.dst rv).put o2.dst rv).defers=[]:=by rw [put_defers,put_defers,ha2]
    have hcode:=evC_ok hO hL (K:=K) (f:=g) (N:=fn.ntmps) (D:=[]) y { env:=set (set (envOf 0 cap) df.d1 (pv.getD .nili)) df.d2 (pv.getD .nili),h:=[] :: h }
    have res:∀ (tmps:Array Value) (w':World),∃ v,(results fn tmps).run P w'=.ok v w':=fun tmps w'=>by
     have:=run_results (P:=P) (fn:=fn) (tmps:=tmps) (w:=w') (xs:=[]) (by rw [hres];rfl)
     exact ⟨_,this⟩
    rw [hrest] at he
    split at he
    ·rename_i st hst
     refine wp_mono (hcode _ _ hst w G ([] :: h) w G _ (Goes.refl _ _ _) s.push (by simp) r2 hsz2 hdd2) fun e a' w' p=>?_
     obtain ⟨G',q1,q2,q3,q4,q5,rfl⟩:=p
     split at he
     ·rename_i v' h' hpop
      injection he with he;subst he
      obtain ⟨G2,l1,l2,_⟩:=pop_ok q1 q2 (x:=.tuple #[]) (.tup _ _ _ rfl fun i hi=>by simp at hi) hpop
      obtain ⟨v,hv⟩:=res a'.tmps w'
      refine ⟨q5,u',hcs1,v,hv,?_⟩
      rw [←hR]
      exact ⟨G2,l1,l2,⟨v,rfl⟩,hset⟩
     ·cases he
    ·rename_i st hst
     refine wp_mono (hcode _ _ hst w G ([] :: h) w G _ (Goes.refl _ _ _) s.push (by simp) r2 hsz2 hdd2) fun e a' w' p=>?_
     obtain ⟨G',q1,q2,q3,q4,q5,rfl⟩:=p
     split at he
     ·rename_i v' h' hpop
      injection he with he;subst he
      obtain ⟨G2,l1,l2,_⟩:=pop_ok q1 q2 (x:=.tuple #[]) (.tup _ _ _ rfl fun i hi=>by simp at hi) hpop
      obtain ⟨v,hv⟩:=res a'.tmps w'
      refine ⟨q5,u',hcs1,v,hv,?_⟩
      rw [←hR]
      exact ⟨G2,l1,l2,⟨v,rfl⟩,hset⟩
     ·cases he
    ·cases he
   rw [wpOpsS]
   simp only [hop0]
   rw [if_pos (by unfold Region.wanted;rw [h2'])]
   rw [hrun0]
   simp only
   split at hrec
   ·rename_i v cs' hrc
    injection hrec with e1 e2
    subst e1
    rw [hrc]
    exact last _ e2
   ·rename_i hrc
    injection hrec with e1 e2
    subst e1
    rw [hrc]
    exact last _ e2
theorem invoke_fn {g:FuncId} {va:Array Value} {w:World} (h:(callFunc g va).run P w=.ok (.enter g va) w):(invoke (.fn (.func g) va) #[]).run P w=.ok (.enter g va) w:=by
 simpa [invoke] using h
theorem finish_ok {N:Nat} {w0:World} {G0:Gm} {h0:Heap} {w:World} {G:Gm} {s:St} {a:Act} (sm:Sim w G s.h) (g:Goes w0 G0 ([] :: h0) w G s.h) (r:EnvRel w G (dom s.h) s.env a) {fn:Func} {cr:List CRes}
  (hcr:cRes P N fn.results.toList=some cr) {kk:Bool} {out:Out} (he:finish (keptR kk cr) s=some out):∃ v,(results fn a.tmps).run P w=.ok v w∧EndRel w0 G0 h0 out (.returned v) w:=by
 unfold finish at he
 split at he
 ·rename_i v hv
  split at he
  ·rename_i v' h' hpop
   injection he with he;subst he
   rw [evRes_kept] at hv
   obtain ⟨x,k1,k2⟩:=evRes_ok sm r hcr hv
   obtain ⟨G2,l1,l2,l3⟩:=popK_ok sm g k2 hpop
   exact ⟨x,k1,G2,l1,l2,x,rfl,l3⟩
  ·cases he
 ·cases he
theorem fnSound_step {O:Orc} (hO:FnSound P O) {H:Hints} (hL:CodeSound P H O) {K:Cfg} (hK:K.fns=cFun P H) (hKd:K.dfn=dFun P H)
  (hX:∀ f args h out,K.X f args h=some out→Enterable P f∧∀ (w:World) (G:Gm) (xs:Array Value),Sim w G h→ArgsRel w G (dom h) args xs→Calls P f xs w (EndRel w G h out)):FnSound P (step K O):=by
 intro f args h out he
 simp only [step,stepFn] at he
 split at he
 ·rename_i r hr
  injection he with he;subst he
  exact hX f args h _ hr
 ·rw [hK] at he
  split at he
  ·cases he
  ·rename_i cf hcf
   unfold cFun at hcf
   split at hcf
   ·cases hcf
   ·rename_i fn hfn
    split at hcf
    ·rename_i c cr hbody hcr
     split at hcf
     ·cases hcf
     ·rename_i hname
      injection hcf with hcf
      subst hcf
      refine ⟨fun xs w=>?_,fun w G xs s hargs=>?_⟩
      ·unfold callFunc
       simp only [Sem.run_bind,run_program,Result.andThen_ok,hfn]
       rw [if_neg hname]
       simp [hbody]
      ·simp only at he
       generalize hbd:(if H.dfr f=true then cSpine P H f fn.ntmps c else CB.code (cCode P H f fn.ntmps c))=bd at he
       split at he
       case isFalse=>cases he
       rename_i hle
       have hN:(xs++Array.replicate (fn.ntmps - xs.size) undef).size=fn.ntmps:=by
        have:=hargs.1
        simp;omega
       have r0:=args_env (D:=[]) hargs fn.ntmps
       refine calls_of_wp_defers hfn hbody ?_
       have body:∀ ex st dv,evB K O bd { env:=envOf 0 args,h:=[] :: h }=some (ex,st,dv) →
         c.wp P (PostB fn.ntmps w G ([] :: h) ex st dv) { tmps:=xs++Array.replicate (fn.ntmps - xs.size) undef,defers:=[] } w:=fun ex st dv hb=>by
        rw [←hbd] at hb
        split at hb
        ·exact spine_ok hO hL c _ ex st dv hb w G ([] :: h) w G _ (Goes.refl _ _ _) s.push (by simp) r0 hN rfl
        ·exact spine_code hO hL hb (Goes.refl _ _ _) s.push (by simp) r0 hN rfl
       have deferred:∀ {gid:FuncId} {cap:List AV} {pv:Option AV} {st:St} {w1:World} {G1:Gm} {a1:Act} {u:FrameMode},finD K O (keptR (H.kept f) cr) gid cap pv st=some out→Sim w1 G1 st.h→Goes w G ([] :: h) w1 G1 st.h→EnvRel w1 G1 (dom st.h) st.env a1 →
         DefRel w1 G1 (dom st.h) (some (gid,cap)) a1.defers→((pv=none∧u=.returning)∨∃ v x,pv=some v∧VRel w1 G1 (dom st.h) v x∧u=.panicking [{ v:=x,recovered:=false }]) →
         Leaves P fn a1.tmps (EndRel w G h out) a1.defers u w1:=fun {gid cap pv st w1 G1 a1 u} hf q1 q2 q3 q6 hu=>by
        unfold finD at hf
        split at hf
        ·rename_i h2 hdef
         obtain ⟨va,hva,hds⟩:=q6
         rw [hds]
         obtain ⟨k1,k2⟩:=def_ok hO hL hKd hdef q1 hva hu
         refine ⟨by rcases hu with ⟨_,rfl⟩ | ⟨_,_,_,_,rfl⟩<;>simp,.func gid,va,gid,va,rfl,invoke_fn (k1 w1),CallsD.mono' k2 ?_⟩
         rintro e u' w' ⟨G',l1,l2,⟨v,rfl⟩,hset⟩
         simp only
         rw [hset]
         obtain ⟨x,m1,m2⟩:=finish_ok (s:={ st with h:=h2 }) l1 (q2.trans l2) (q3.along l2) hcr hf
         exact ⟨x,m1,m2⟩
        ·cases hf
       split at he
       ·rename_i st hst
        refine wp_mono (body _ _ _ hst) fun e a' w' p=>?_
        obtain ⟨G',q1,q2,q3,q4,rfl,q6⟩:=p
        obtain ⟨v,k1,k2⟩:=finish_ok q1 q2 q3 hcr he
        simp only [DefRel] at q6
        simp only [bodyPostD,q6]
        exact ⟨v,k1,k2⟩
       ·rename_i st hst
        refine wp_mono (body _ _ _ hst) fun e a' w' p=>?_
        obtain ⟨G',q1,q2,q3,q4,rfl,q6⟩:=p
        obtain ⟨v,k1,k2⟩:=finish_ok q1 q2 q3 hcr he
        simp only [DefRel] at q6
        simp only [bodyPostD,q6]
        exact ⟨v,k1,k2⟩
       ·rename_i v st hst
        refine wp_mono (body _ _ _ hst) fun e a' w' p=>?_
        obtain ⟨G',q1,q2,q3,q4,⟨x,rfl,hvx⟩,q6⟩:=p
        split at he
        ·rename_i v' h' hpop
         injection he with he;subst he
         obtain ⟨G2,l1,l2,l3⟩:=pop_ok q1 q2 hvx hpop
         simp only [DefRel] at q6
         simp only [bodyPostD,q6]
         exact ⟨G2,l1,l2,x,rfl,l3⟩
        ·cases he
       ·rename_i st gid cap hst
        refine wp_mono (body _ _ _ hst) fun e a' w' p=>?_
        obtain ⟨G',q1,q2,q3,q4,rfl,q6⟩:=p
        simp only [bodyPostD]
        exact deferred he q1 q2 q3 q6 (.inl ⟨rfl,rfl⟩)
       ·rename_i st gid cap hst
        refine wp_mono (body _ _ _ hst) fun e a' w' p=>?_
        obtain ⟨G',q1,q2,q3,q4,rfl,q6⟩:=p
        simp only [bodyPostD]
        exact deferred he q1 q2 q3 q6 (.inl ⟨rfl,rfl⟩)
       ·rename_i v st gid cap hst
        refine wp_mono (body _ _ _ hst) fun e a' w' p=>?_
        obtain ⟨G',q1,q2,q3,q4,⟨x,rfl,hvx⟩,q6⟩:=p
        simp only [bodyPostD]
        exact deferred he q1 q2 q3 q6 (.inr ⟨v,x,rfl,hvx,rfl⟩)
       ·cases he
    ·cases hcf
/- The evaluator grows with its oracle. -/
structure Orc.le (O O':Orc):Prop where
 fn:∀ f a h r,O.fn f a h=some r→O'.fn f a h=some r
 code:∀ c s r,O.code c s=some r→O'.code c s=some r
theorem evM_mono {K:Cfg} {O O':Orc} (hl:O.le O') {o:MOp} {e:Env} {h:Heap} {r:Out} (he:evM K O o e h=some r):evM K O' o e h=some r:=by
 cases o with
 | call f args=>
  simp only [evM] at he ⊢
  split at he
  ·split at he
   ·exact hl.fn _ _ _ _ he
   ·cases he
  ·cases he
 | inv tbl x args=>
  simp only [evM] at he ⊢
  split at he
  ·split at he
   ·split at he
    ·exact hl.fn _ _ _ _ he
    ·cases he
   ·cases he
  ·cases he
 | _=>exact he
theorem evOps_mono {K:Cfg} {O O':Orc} (hl:O.le O'):∀ (l:List CO) (s:St) (r:Ex×St),evOps K O l s=some r→evOps K O' l s=some r
 | [],s,r,he=>he
 | o :: l,s,r,he=>by
  simp only [evOps] at he ⊢
  split at he
  ·cases he
  ·exact evOps_mono hl l _ r he
  ·split at he
   ·split at he
    ·exact evOps_mono hl l _ r he
    ·cases he
   ·split at he
    ·rename_i v h hev
     rw [evM_mono hl hev]
     exact evOps_mono hl l _ r he
    ·rename_i v h hev
     rw [evM_mono hl hev]
     exact he
    ·cases he
   ·cases he
theorem evD_mono {K:Cfg} {O O':Orc} (hl:O.le O'):∀ (l:List DO) (pd:Pend) (s:St) (r:Ex×St),evD K O l pd s=some r→evD K O' l pd s=some r
 | [],pd,s,r,he=>he
 | d :: l,pd,s,r,he=>by
  have hq:∀ q e h,evQ K O' q e h=evQ K O q e h:=fun q e h=>evQ_mono q e h
  have hr:∀ re pd h,recheck K O' re pd h=recheck K O re pd h:=fun re pd h=>by unfold recheck;simp only [hq]
  simp only [evD,hq,hr] at he ⊢
  split at he
  ·cases he
  ·rename_i hw
   split at he
   ·cases he
   ·rename_i hre
    rw [if_neg hre]
    exact evD_mono hl l pd _ r he
  ·split at he
   ·split at he
    ·exact evD_mono hl l pd _ r he
    ·cases he
   ·split at he
    ·rename_i hqt
     rw [if_pos hqt]
     split at he
     ·exact evD_mono hl l _ _ r he
     ·cases he
    ·rename_i hqt
     rw [if_neg hqt]
     split at he
     ·rename_i v h hev
      rw [evM_mono hl hev]
      simp only
      split at he
      ·rename_i hrc
       rw [if_pos hrc]
       exact evD_mono hl l pd _ r he
      ·cases he
     ·rename_i v h hev
      rw [evM_mono hl hev]
      exact he
     ·cases he
   ·cases he
theorem evC_mono {K:Cfg} {O O':Orc} (hl:O.le O'):∀ (c:CC) (s:St) (r:Ex×St),evC K O c s=some r→evC K O' c s=some r
 | .skip,s,r,he=>he
 | .reg ops,s,r,he=>evOps_mono hl ops s r he
 | .draw ds,s,r,he=>evD_mono hl ds [] s r he
 | .seq a b,s,r,he=>by
  simp only [evC] at he ⊢
  split at he
  ·rename_i s1 h1
   rw [evC_mono hl a s _ h1]
   exact evC_mono hl b s1 r he
  ·rename_i hnn
   rw [evC_mono hl a s r he]
   split
   ·rename_i s1 h1
    injection h1 with h1
    exact absurd (h1▸he) (hnn s1)
   ·rfl
 | .cond x a b,s,r,he=>by
  simp only [evC] at he ⊢
  split at he
  ·rename_i t ht
   cases t with
   | true=>simp only [if_true] at he ⊢;exact evC_mono hl a s r he
   | false=>simp only [Bool.false_eq_true,if_false] at he ⊢;exact evC_mono hl b s r he
  ·cases he
 | .block id a,s,r,he=>by
  simp only [evC] at he ⊢
  split at he
  ·rename_i j s1 h1
   rw [evC_mono hl a s _ h1]
   exact he
  ·rename_i hnn
   rw [evC_mono hl a s r he]
   split
   ·rename_i j s1 h1
    injection h1 with h1
    exact absurd (h1▸he) (hnn j s1)
   ·rfl
 | .loop live a,s,r,he=>by
  simp only [evC] at he ⊢
  exact hl.code _ _ _ he
 | .loopAt n live a,s,r,he=>by
  simp only [evC] at he ⊢
  split at he
  ·rename_i s1 h1
   rw [evC_mono hl a s _ h1]
   simp only
   split at he
   ·exact hl.code _ _ _ he
   ·cases he
  ·rename_i hnn
   rw [evC_mono hl a s r he]
   split
   ·rename_i s1 h1
    injection h1 with h1
    exact absurd (h1▸he) (hnn s1)
   ·rfl
 | .exit id,s,r,he=>he
 | .ret,s,r,he=>he
 | .scope a,s,r,he=>by
  simp only [evC] at he ⊢
  exact evC_mono hl a s r he
 | .bad,s,r,he=>he
theorem evB_mono {K:Cfg} {O O':Orc} (hl:O.le O'):∀ (b:CB) (s:St) (r:Ex×St×Option (FuncId×List AV)),evB K O b s=some r→evB K O' b s=some r
 | .code c,s,r,he=>by
  simp only [evB] at he ⊢
  split at he
  ·rename_i ex s' h1
   rw [evC_mono hl c s _ h1]
   exact he
  ·cases he
 | .seq c b,s,r,he=>by
  simp only [evB] at he ⊢
  split at he
  ·rename_i s1 h1
   rw [evC_mono hl c s _ h1]
   exact evB_mono hl b s1 r he
  ·rename_i ex s1 hn h1
   rw [evC_mono hl c s _ h1]
   cases ex with
   | norm=>exact absurd rfl hn
   | _=>exact he
  ·cases he
 | .dfr d q c,s,r,he=>by
  simp only [evB] at he ⊢
  split at he
  ·split at he
   ·rename_i ex s' h1
    rw [evC_mono hl c _ _ h1]
    exact he
   ·cases he
  ·cases he
theorem evDef_mono {K:Cfg} {O O':Orc} (hl:O.le O') {g:FuncId} {cap:List AV} {pv:Option AV} {h:Heap} {r:Heap} (he:evDef K O g cap pv h=some r):evDef K O' g cap pv h=some r:=by
 unfold evDef at he ⊢
 split at he
 ·cases he
 ·split at he
  ·rename_i hle
   rw [if_pos hle]
   split at he
   ·rename_i s h1
    rw [evC_mono hl _ _ _ h1]
    exact he
   ·rename_i s h1
    rw [evC_mono hl _ _ _ h1]
    exact he
   ·cases he
  ·cases he
theorem finD_mono {K:Cfg} {O O':Orc} (hl:O.le O') {rs:List CRes} {g:FuncId} {cap:List AV} {pv:Option AV} {s:St} {r:Out} (he:finD K O rs g cap pv s=some r):finD K O' rs g cap pv s=some r:=by
 unfold finD at he ⊢
 split at he
 ·rename_i h2 h1
  rw [evDef_mono hl h1]
  exact he
 ·cases he
theorem step_mono {K:Cfg} {O O':Orc} (hl:O.le O'):(step K O).le (step K O'):=by
 refine ⟨fun f a h r he=>?_,fun c s r he=>evC_mono hl c s r he⟩
 simp only [step,stepFn] at he ⊢
 split at he
 ·exact he
 ·split at he
  ·cases he
  ·split at he
   ·rename_i hle
    rw [if_pos hle]
    split at he
    ·rename_i s hs
     rw [evB_mono hl _ _ _ hs]
     exact he
    ·rename_i s hs
     rw [evB_mono hl _ _ _ hs]
     exact he
    ·rename_i v s hs
     rw [evB_mono hl _ _ _ hs]
     exact he
    ·rename_i s g cap hs
     rw [evB_mono hl _ _ _ hs]
     exact finD_mono hl he
    ·rename_i s g cap hs
     rw [evB_mono hl _ _ _ hs]
     exact finD_mono hl he
    ·rename_i v s g cap hs
     rw [evB_mono hl _ _ _ hs]
     exact finD_mono hl he
    ·cases he
   ·cases he
end Go.Ab
/-
  The least evaluator that is its own step: 'mu'. Its equations;it is sound;what runs with fuel is its word.
-/
namespace Go.Ab
structure Rl where
 fn:FuncId→List AV→Heap→Out→Prop
 code:CC→St→Ex×St→Prop
structure Orc.sub (O:Orc) (R:Rl):Prop where
 fn:∀ f a h r,O.fn f a h=some r→R.fn f a h r
 code:∀ c s r,O.code c s=some r→R.code c s r
def stepR (K:Cfg) (R:Rl):Rl where
 fn f a h r:=∃ O:Orc,O.sub R∧(step K O).fn f a h=some r
 code c s r:=∃ O:Orc,O.sub R∧(step K O).code c s=some r
structure Rl.le (R S:Rl):Prop where
 fn:∀ f a h r,R.fn f a h r→S.fn f a h r
 code:∀ c s r,R.code c s r→S.code c s r
theorem Orc.sub.le {O:Orc} {R S:Rl} (h:O.sub R) (k:R.le S):O.sub S:=⟨fun f a g r e=>k.fn _ _ _ _ (h.fn _ _ _ _ e),fun c s r e=>k.code _ _ _ (h.code _ _ _ e)⟩
theorem stepR_mono {K:Cfg} {R S:Rl} (k:R.le S):(stepR K R).le (stepR K S):=
 ⟨fun _ _ _ _ ⟨O,h,e⟩=>⟨O,h.le k,e⟩,fun _ _ _ ⟨O,h,e⟩=>⟨O,h.le k,e⟩⟩
def muR (K:Cfg):Rl where
 fn f a h r:=∀ R:Rl,(stepR K R).le R→R.fn f a h r
 code c s r:=∀ R:Rl,(stepR K R).le R→R.code c s r
theorem muR_least {K:Cfg} {R:Rl} (h:(stepR K R).le R):(muR K).le R:=⟨fun _ _ _ _ k=>k R h,fun _ _ _ k=>k R h⟩
theorem muR_pre (K:Cfg):(stepR K (muR K)).le (muR K):=
 ⟨fun f a h r k R hR=>hR.fn _ _ _ _ ((stepR_mono (muR_least hR)).fn _ _ _ _ k),fun c s r k R hR=>hR.code _ _ _ ((stepR_mono (muR_least hR)).code _ _ _ k)⟩
theorem muR_post (K:Cfg):(muR K).le (stepR K (muR K)):=muR_least (stepR_mono (muR_pre K))
theorem muR_induct {K:Cfg} {R:Rl} (h:(stepR K ⟨fun f a g r=>(muR K).fn f a g r∧R.fn f a g r,fun c s r=>(muR K).code c s r∧R.code c s r⟩).le R):(muR K).le R:=by
 have hsub:Rl.le ⟨fun f a g r=>(muR K).fn f a g r∧R.fn f a g r,fun c s r=>(muR K).code c s r∧R.code c s r⟩ (muR K):=⟨fun _ _ _ _ e=>e.1,fun _ _ _ e=>e.1⟩
 have key:(stepR K ⟨fun f a g r=>(muR K).fn f a g r∧R.fn f a g r,fun c s r=>(muR K).code c s r∧R.code c s r⟩).le ⟨fun f a g r=>(muR K).fn f a g r∧R.fn f a g r,fun c s r=>(muR K).code c s r∧R.code c s r⟩:=
  ⟨fun f a g r k=>⟨(muR_pre K).fn _ _ _ _ ((stepR_mono hsub).fn _ _ _ _ k),h.fn _ _ _ _ k⟩,fun c s r k=>⟨(muR_pre K).code _ _ _ ((stepR_mono hsub).code _ _ _ k),h.code _ _ _ k⟩⟩
 exact ⟨fun f a g r k=>((muR_least key).fn _ _ _ _ k).2,fun c s r k=>((muR_least key).code _ _ _ k).2⟩
theorem joined {O O':Orc} (h:∀ f a g r r',O.fn f a g=some r→O'.fn f a g=some r'→r=r') (k:∀ c s r r',O.code c s=some r→O'.code c s=some r'→r=r'):∃ J:Orc,O.le J∧O'.le J:=by
 refine ⟨⟨fun f a g=>(O.fn f a g).or (O'.fn f a g),fun c s=>(O.code c s).or (O'.code c s)⟩,⟨fun f a g r e=>by simp [e],fun c s r e=>by simp [e]⟩,⟨fun f a g r e=>?_,fun c s r e=>?_⟩⟩
 ·cases e1:O.fn f a g with
  | none=>simp [e1,e]
  | some q=>simp [e1,h f a g q r e1 e]
 ·cases e1:O.code c s with
  | none=>simp [e1,e]
  | some q=>simp [e1,k c s q r e1 e]
theorem muR_one (K:Cfg):(muR K).le ⟨fun f a g r=>∀ r',(muR K).fn f a g r'→r=r',fun c s r=>∀ r',(muR K).code c s r'→r=r'⟩:=by
 refine muR_induct ⟨fun f a g r k r' h'=>?_,fun c s r k r' h'=>?_⟩
 ·obtain ⟨O,hO,e⟩:=k
  obtain ⟨O',hO',e'⟩:=(muR_post K).fn _ _ _ _ h'
  obtain ⟨J,j1,j2⟩:=joined (O:=O) (O':=O') (fun f a g r r' q q'=>(hO.fn _ _ _ _ q).2 r' (hO'.fn _ _ _ _ q')) (fun c s r r' q q'=>(hO.code _ _ _ q).2 r' (hO'.code _ _ _ q'))
  have e1:=(step_mono (K:=K) j1).fn _ _ _ _ e
  have e2:=(step_mono (K:=K) j2).fn _ _ _ _ e'
  rw [e1] at e2
  injection e2
 ·obtain ⟨O,hO,e⟩:=k
  obtain ⟨O',hO',e'⟩:=(muR_post K).code _ _ _ h'
  obtain ⟨J,j1,j2⟩:=joined (O:=O) (O':=O') (fun f a g r r' q q'=>(hO.fn _ _ _ _ q).2 r' (hO'.fn _ _ _ _ q')) (fun c s r r' q q'=>(hO.code _ _ _ q).2 r' (hO'.code _ _ _ q'))
  have e1:=(step_mono (K:=K) j1).code _ _ _ e
  have e2:=(step_mono (K:=K) j2).code _ _ _ e'
  rw [e1] at e2
  injection e2
open Classical in
noncomputable def mu (K:Cfg):Orc where
 fn f a h:=if k:∃ r,(muR K).fn f a h r then some (Classical.choose k) else none
 code c s:=if k:∃ r,(muR K).code c s r then some (Classical.choose k) else none
theorem mu_fn {K:Cfg} {f:FuncId} {a:List AV} {h:Heap} {r:Out}:(mu K).fn f a h=some r↔(muR K).fn f a h r:=by
 constructor
 ·intro e
  unfold mu at e
  simp only at e
  split at e
  ·rename_i k
   injection e with e
   rw [←e]
   exact Classical.choose_spec k
  ·cases e
 ·intro e
  unfold mu
  simp only
  have k:∃ r,(muR K).fn f a h r:=⟨r,e⟩
  rw [dif_pos k,(muR_one K).fn _ _ _ _ (Classical.choose_spec k) r e]
theorem mu_code {K:Cfg} {c:CC} {s:St} {r:Ex×St}:(mu K).code c s=some r↔(muR K).code c s r:=by
 constructor
 ·intro e
  unfold mu at e
  simp only at e
  split at e
  ·rename_i k
   injection e with e
   rw [←e]
   exact Classical.choose_spec k
  ·cases e
 ·intro e
  unfold mu
  simp only
  have k:∃ r,(muR K).code c s r:=⟨r,e⟩
  rw [dif_pos k,(muR_one K).code _ _ _ (Classical.choose_spec k) r e]
theorem mu_sub (K:Cfg):(mu K).sub (muR K):=⟨fun _ _ _ _ e=>mu_fn.1 e,fun _ _ _ e=>mu_code.1 e⟩
theorem sub_mu {K:Cfg} {O:Orc} (h:O.sub (muR K)):O.le (mu K):=⟨fun _ _ _ _ e=>mu_fn.2 (h.fn _ _ _ _ e),fun _ _ _ e=>mu_code.2 (h.code _ _ _ e)⟩
theorem step_mu_fn (K:Cfg) (f:FuncId) (a:List AV) (h:Heap):(mu K).fn f a h=(step K (mu K)).fn f a h:=by
 apply Option.ext
 intro r
 constructor
 ·intro e
  obtain ⟨O,hO,e'⟩:=(muR_post K).fn _ _ _ _ (mu_fn.1 e)
  exact (step_mono (sub_mu hO)).fn _ _ _ _ e'
 ·intro e
  exact mu_fn.2 ((muR_pre K).fn _ _ _ _ ⟨mu K,mu_sub K,e⟩)
theorem step_mu_code (K:Cfg) (c:CC) (s:St):(mu K).code c s=(step K (mu K)).code c s:=by
 apply Option.ext
 intro r
 constructor
 ·intro e
  obtain ⟨O,hO,e'⟩:=(muR_post K).code _ _ _ (mu_code.1 e)
  exact (step_mono (sub_mu hO)).code _ _ _ e'
 ·intro e
  exact mu_code.2 ((muR_pre K).code _ _ _ ⟨mu K,mu_sub K,e⟩)
theorem evF_le (K:Cfg):∀ n,(evF K n).le (mu K)
 | 0=>⟨fun _ _ _ _ e=>by simp [evF] at e,fun _ _ _ e=>by simp [evF] at e⟩
 | n+1=>⟨fun f a h r e=>by rw [step_mu_fn];exact (step_mono (evF_le K n)).fn _ _ _ _ e,fun c s r e=>by rw [step_mu_code];exact (step_mono (evF_le K n)).code _ _ _ e⟩
theorem mu_sound {P:Program} {H:Hints} {K:Cfg} (hK:K.fns=cFun P H) (hKd:K.dfn=dFun P H)
  (hX:∀ f args h out,K.X f args h=some out→Enterable P f∧∀ (w:World) (G:Gm) (xs:Array Value),Sim w G h→ArgsRel w G (dom h) args xs→Calls P f xs w (EndRel w G h out)) :
  FnSound P (mu K)∧CodeSound P H (mu K):=by
 have key:(muR K).le ⟨fun f args h out=>Enterable P f∧∀ (w:World) (G:Gm) (xs:Array Value),Sim w G h→ArgsRel w G (dom h) args xs→Calls P f xs w (EndRel w G h out),
   fun cc st r=>∀ (f:FuncId) (N:Nat) (D:List Deferred) (c:Code) (n:Nat) (live:List Nat),cc=.loopAt n live (cCode P H f N c) →
    ∀ (w0:World) (G0:Gm) (h0:Heap) (w:World) (G:Gm) (a:Act),Goes w0 G0 h0 w G st.h→Sim w G st.h→st.h≠[]→EnvRel w G (dom st.h) st.env a→a.tmps.size=N→a.defers=D→hlen h0≤n →
     LoopW P c (Post N D w0 G0 h0 r.1 r.2) a w⟩:=by
  refine muR_induct ⟨fun f a h r k=>?_,fun cc st r k=>?_⟩
  ·obtain ⟨O,hO,e⟩:=k
   exact fnSound_step (fun f a h r e=>(hO.fn _ _ _ _ e).2) (H:=H) (fun f N D c n live st ex st' e=>(hO.code _ _ _ e).2 f N D c n live rfl) hK hKd hX f a h r e
  ·obtain ⟨O,hO,e⟩:=k
   intro f N D c n live hcc
   subst hcc
   exact codeSound_step (fun f a h r e=>(hO.fn _ _ _ _ e).2) (H:=H) (fun f N D c n live st ex st' e=>(hO.code _ _ _ e).2 f N D c n live rfl) K f N D c n live st r.1 r.2 e
 exact ⟨fun f a h r e=>key.fn _ _ _ _ (mu_fn.1 e),fun f N D c n live st ex st' e=>key.code _ _ _ (mu_code.1 e) f N D c n live rfl⟩
end Go.Ab
/-
  The evaluator in use: what simp unfolds.
-/
namespace Go.Ab
theorem fn_code {K:Cfg} {f:FuncId} {args:List AV} {h:Heap} {cf:CFun} {c:CC} (hX:K.X f args h=none) (hc:K.fns f=some cf) (hb:cf.body=.code c) (ha:args.length≤cf.nt) :
  (mu K).fn f args h=match evC K (mu K) c { env:=envOf 0 args,h:=[] :: h } with
   | some (.norm,s)=>finish cf.res s
   | some (.ret,s)=>finish cf.res s
   | some (.pan v,s)=>(match pop v s.h with
    | some (v',h')=>some (.pan v' h')
    | none=>none)
   | _=>none:=by
 rw [step_mu_fn]
 simp only [step,stepFn,hX,hc,hb,if_pos ha,evB]
 cases evC K (mu K) c { env:=envOf 0 args,h:=[] :: h } with
 | none=>rfl
 | some r=>
  obtain ⟨ex,s⟩:=r
  cases ex<;>rfl
theorem loop_at {K:Cfg} {n:Nat} {live:List Nat} {a:CC} {s:St}:(mu K).code (.loopAt n live a) s=match evC K (mu K) a s with
  | some (.norm,s1)=>(match cut n live s1 with
   | some s2=>(mu K).code (.loopAt n live a) s2
   | none=>none)
  | r=>r:=by rw [step_mu_code];rfl
section
variable (k:IntKind) (a b:Int)
@[simp] theorem evInt_add:evInt .add k a b=some (.int k (k.wrap (a+b))):=rfl
@[simp] theorem evInt_sub:evInt .sub k a b=some (.int k (k.wrap (a - b))):=rfl
@[simp] theorem evInt_mul:evInt .mul k a b=some (.int k (k.wrap (a * b))):=rfl
@[simp] theorem evInt_quo:evInt .quo k a b=if b=0 then none else some (.int k (k.wrap (a.tdiv b))):=rfl
@[simp] theorem evInt_rem:evInt .rem k a b=if b=0 then none else some (.int k (a.tmod b)):=rfl
@[simp] theorem evInt_and:evInt .and k a b=some (.int k (k.wrap ((BitVec.ofInt k.bits a &&& BitVec.ofInt k.bits b).toNat:Int))):=rfl
@[simp] theorem evInt_or:evInt .or k a b=some (.int k (k.wrap ((BitVec.ofInt k.bits a ||| BitVec.ofInt k.bits b).toNat:Int))):=rfl
@[simp] theorem evInt_eql:evInt .eql k a b=some (.bool (decide (a=b))):=rfl
@[simp] theorem evInt_neq:evInt .neq k a b=some (.bool (!(decide (a=b)))):=rfl
@[simp] theorem evInt_lss:evInt .lss k a b=some (.bool (decide (a < b))):=rfl
@[simp] theorem evInt_leq:evInt .leq k a b=some (.bool (decide (a≤b))):=rfl
@[simp] theorem evInt_gtr:evInt .gtr k a b=some (.bool (decide (b < a))):=rfl
@[simp] theorem evInt_geq:evInt .geq k a b=some (.bool (decide (b≤a))):=rfl
@[simp] theorem evInt_shl:evInt .shl k a b=if b < 0 then none else some (.int k (k.wrap (a * 2 ^ (min b.toNat k.bits)))):=rfl
@[simp] theorem evInt_shr:evInt .shr k a b=if b < 0 then none else some (.int k (a.fdiv (2 ^ (min b.toNat k.bits)))):=rfl
end
section
variable (a b:List UInt8)
theorem beq_dec:(a == b)=decide (a=b):=by
 by_cases h:a=b
 ·simp [h]
 ·simp [h]
@[simp] theorem evStr_add:evStr .add a b=if a.length+b.length≤strBound then some (.str (a++b)) else none:=rfl
@[simp] theorem evStr_eql:evStr .eql a b=some (.bool (decide (a=b))):=by simp only [evStr,beq_dec]
@[simp] theorem evStr_neq:evStr .neq a b=some (.bool (!(decide (a=b)))):=by simp only [evStr,beq_dec]
end
@[simp] theorem slLen_lst (es:List AV):slLen (.lst es)=some es.length:=rfl
@[simp] theorem slLen_nils:slLen .nils=some 0:=rfl
@[simp] theorem slLen_own (a:Loc) (n:Nat):slLen (.own a n)=some n:=rfl
theorem wrap64 {n:Int} (h1:-9223372036854775808≤n) (h2:n≤9223372036854775807):IntKind.i64.wrap n=n:=by
 have e1:IntKind.i64.bits=64:=rfl
 have e2:IntKind.i64.signed=true:=rfl
 unfold IntKind.wrap
 simp only [e1,e2,Bool.true_and,decide_eq_true_eq]
 have e3:(2:Int) ^ 64=18446744073709551616:=by decide
 have e4:(2:Int) ^ (64 - 1)=9223372036854775808:=by decide
 rw [e3,e4]
 split<;>omega
theorem wrapU8 (n:Int):IntKind.u8.wrap n=n % 256:=by
 have e1:IntKind.u8.bits=8:=rfl
 have e2:IntKind.u8.signed=false:=rfl
 unfold IntKind.wrap
 simp only [e1,e2,Bool.false_and,Bool.false_eq_true,if_false]
 rfl
@[simp] theorem cells_agg (cs:List AV):(AV.agg cs).cells=cs:=rfl
@[simp] theorem isAgg_agg (cs:List AV):(AV.agg cs).isAgg=true:=rfl
@[simp] theorem cells_tup (cs:List AV):(AV.tup cs).cells=[]:=rfl
@[simp] theorem isAgg_tup (cs:List AV):(AV.tup cs).isAgg=false:=rfl
@[simp] theorem cells_top:AV.top.cells=[]:=rfl
@[simp] theorem cells_bool (b:Bool):(AV.bool b).cells=[(AV.bool b)]:=rfl
@[simp] theorem isAgg_bool (b:Bool):(AV.bool b).isAgg=false:=rfl
@[simp] theorem cells_int (k:IntKind) (n:Int):(AV.int k n).cells=[(AV.int k n)]:=rfl
@[simp] theorem isAgg_int (k:IntKind) (n:Int):(AV.int k n).isAgg=false:=rfl
@[simp] theorem cells_str (s:List UInt8):(AV.str s).cells=[(AV.str s)]:=rfl
@[simp] theorem isAgg_str (s:List UInt8):(AV.str s).isAgg=false:=rfl
@[simp] theorem cells_nils :AV.nils.cells=[AV.nils]:=rfl
@[simp] theorem isAgg_nils :AV.nils.isAgg=false:=rfl
@[simp] theorem cells_emp :AV.emp.cells=[AV.emp]:=rfl
@[simp] theorem isAgg_emp :AV.emp.isAgg=false:=rfl
@[simp] theorem cells_lst (es:List AV):(AV.lst es).cells=[(AV.lst es)]:=rfl
@[simp] theorem isAgg_lst (es:List AV):(AV.lst es).isAgg=false:=rfl
@[simp] theorem cells_own (a:Loc) (n:Nat):(AV.own a n).cells=[(AV.own a n)]:=rfl
@[simp] theorem isAgg_own (a:Loc) (n:Nat):(AV.own a n).isAgg=false:=rfl
@[simp] theorem cells_ptr (a:Loc) (o:Nat):(AV.ptr a o).cells=[(AV.ptr a o)]:=rfl
@[simp] theorem isAgg_ptr (a:Loc) (o:Nat):(AV.ptr a o).isAgg=false:=rfl
@[simp] theorem cells_eptr (a:Loc) (n s i o:Nat):(AV.eptr a n s i o).cells=[(AV.eptr a n s i o)]:=rfl
@[simp] theorem isAgg_eptr (a:Loc) (n s i o:Nat):(AV.eptr a n s i o).isAgg=false:=rfl
@[simp] theorem cells_iptr (e:AV) (o:Nat):(AV.iptr e o).cells=[(AV.iptr e o)]:=rfl
@[simp] theorem isAgg_iptr (e:AV) (o:Nat):(AV.iptr e o).isAgg=false:=rfl
@[simp] theorem cells_nilp :AV.nilp.cells=[AV.nilp]:=rfl
@[simp] theorem isAgg_nilp :AV.nilp.isAgg=false:=rfl
@[simp] theorem cells_fn (f:Fn) (x y:List AV):(AV.fn f x y).cells=[(AV.fn f x y)]:=rfl
@[simp] theorem isAgg_fn (f:Fn) (x y:List AV):(AV.fn f x y).isAgg=false:=rfl
@[simp] theorem cells_nilf :AV.nilf.cells=[AV.nilf]:=rfl
@[simp] theorem isAgg_nilf :AV.nilf.isAgg=false:=rfl
@[simp] theorem cells_iface (t:TypeId) (v:AV):(AV.iface t v).cells=[(AV.iface t v)]:=rfl
@[simp] theorem isAgg_iface (t:TypeId) (v:AV):(AV.iface t v).isAgg=false:=rfl
@[simp] theorem cells_nili :AV.nili.cells=[AV.nili]:=rfl
@[simp] theorem isAgg_nili :AV.nili.isAgg=false:=rfl
@[simp] theorem cells_mp (a:Loc):(AV.mp a).cells=[(AV.mp a)]:=rfl
@[simp] theorem isAgg_mp (a:Loc):(AV.mp a).isAgg=false:=rfl
@[simp] theorem cells_nilm :AV.nilm.cells=[AV.nilm]:=rfl
@[simp] theorem isAgg_nilm :AV.nilm.isAgg=false:=rfl
@[simp] theorem cells_anyp :AV.anyp.cells=[AV.anyp]:=rfl
@[simp] theorem isAgg_anyp :AV.anyp.isAgg=false:=rfl
def iaF (sz:Nat) (v:AV) (j:AV):Option AV:=match v,j with
 | .lst es,.int _ j=>if 0≤j then (match es[j.toNat]? with
  | some v=>if v.cells.length=sz then some (.iptr v 0) else none
  | none=>none) else none
 | .own a n,.int _ j=>if 0≤j∧j < n then some (.eptr a n sz j.toNat 0) else none
 | _,_=>none
@[simp] theorem ev_iaS (sz:Nat) (x i:Opd) (e:Env):evP (.iaS sz x i) e=iaF sz (x.ev e) (i.ev e):=rfl
@[simp] theorem iaF_own (sz:Nat) (a:Loc) (n:Nat) (k:IntKind) (j:Int):iaF sz (.own a n) (.int k j)=if 0≤j∧j < n then some (.eptr a n sz j.toNat 0) else none:=rfl
@[simp] theorem iaF_lst_ (sz:Nat) (es:List AV) (k:IntKind) (j:Int):iaF sz (.lst es) (.int k j)=if 0≤j then (match es[j.toNat]? with
  | some v=>if v.cells.length=sz then some (.iptr v 0) else none
  | none=>none) else none:=rfl
attribute [simp] evP.eq_1 evP.eq_2 evP.eq_3 evP.eq_4 evP.eq_5 evP.eq_6 evP.eq_8 evP.eq_9 evP.eq_10 evP.eq_11 evP.eq_12 evP.eq_13 evP.eq_14 evP.eq_15 evP.eq_16 evP.eq_17 evP.eq_18 evP.eq_19 evP.eq_20 evP.eq_21 evP.eq_22 evP.eq_23 evP.eq_24 evP.eq_25 evP.eq_26 evP.eq_27
attribute [simp] storeToV viewK toV appToV asV viewF1 viewC viewE viewF isE ldQ stQ toQ appToQ bareK wanted evM outVal evQ quietM loud quietC Opd.ev oev get set put envOf keep evBin BinOp.shifts isNil finish evRes evResL evRes1 keepR popK pop merge moved AV.ren AV.rens Blk.ren AV.refOk AV.refOks AV.view AV.views hget hset hnext hnew hlen
 getE setE loadFrom storeTo bnds bHi bLo elemsOf.eq_1 elemsOf.eq_2 elemsOf.eq_3 elemsOf.eq_4 recheck same1
end Go.Ab
