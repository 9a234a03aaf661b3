/-
  The evaluator is sound: code, loops, functions; the least evaluator that is its own step.
-/
import Derived.Test.YtjnomgdildcbhaaGreatDoorAbDraw3
set_option linter.unusedVariables false
set_option linter.unusedSimpArgs false
namespace Go.Ab
open Go.RowKit
variable {P:Program}
def DD (P:Program) (c:Code) (Q:Exit->Act->World->Prop) (a:Act) (w:World):Prop:=
 ∀ (b:Frame) (k:List Item) (cs:List Frame),∃ e a' w',Q e a' w'∧Arrives P (lone (b.at a (.code c :: .inLoop c :: k)) cs w) b k cs e a' w'
theorem E7 {c:Code} {Q:Exit->Act->World->Prop} {a:Act} {w:World} (h:DD P c Q a w):(Code.loop c).wp P Q a w:=fun b k cs=>by
 obtain ⟨e,a',w',hq,harr⟩:=h b k cs
 exact ⟨e,a',w',hq,.of_steps (.one step_loop) harr⟩
theorem E8 {c:Code} {Q:Exit->Act->World->Prop} {a:Act} {w:World} (h:c.wp P (Exit.then (DD P c Q) Q) a w):DD P c Q a w:=fun b k cs=>by
 obtain ⟨e,a₁,w₁,hq,harr⟩:=h b (.inLoop c :: k) cs
 cases e with
 | normal=>
  obtain ⟨e₂,a₂,w₂,hq₂,harr₂⟩:=hq b k cs
  exact ⟨e₂,a₂,w₂,hq₂,.of_steps (Steps.trans harr (.one step_inLoop)) harr₂⟩
 | exit id=>exact ⟨_,a₁,w₁,hq,.pass (x:=.inLoop c) rfl (fun _ _=>.inl (by simp)) harr⟩
 | goto l=>exact ⟨_,a₁,w₁,hq,.pass (x:=.inLoop c) rfl (fun _ _=>.inl (by simp)) harr⟩
 | ret=>exact ⟨_,a₁,w₁,hq,.pass (x:=.inLoop c) rfl (fun _ _=>.inl (by simp)) harr⟩
 | panic ch=>exact ⟨_,a₁,w₁,hq,.pass (x:=.inLoop c) rfl (fun _ _=>.inl (by simp)) harr⟩
 | outgrown=>exact ⟨_,a₁,w₁,hq,.pass (x:=.inLoop c) rfl (fun _ _=>.inl (by simp)) harr⟩
theorem qd.drop {w:World} {G:Gm} {L L':Loc->Prop} {a:Loc} {B:Blk} {p:Loc->Bool} (h:qd w G L a B) (hp:B.aJ p=true) (hL:∀ q,L q->p q=true->L' q):qd w G L' a B:=by
 cases B with
 | box t fz v=>
  obtain ⟨b,c,h1,h2,h3,h4,h5,h6⟩:=h
  refine ⟨b,c,h1,h2,h3,h4,fun j hj=>⟨(h5 j hj).1,(h5 j hj).2.goes (aM.refl w G) (p:=p) (iE hp (by omega)) fun q hq hpq=>⟨hL q hq hpq,Agree.refl G q⟩⟩,h6⟩
 | arr t sz vw es=>exact h
 | map es=>
  obtain ⟨b,en,ck,h1,h2,h3,h4,h5⟩:=h
  refine ⟨b,en,ck,h1,h2,h3,h4,fun i hi=>⟨(h5 i hi).1,(h5 i hi).2.goes (aM.refl w G) (p:=p) ?_ fun q hq hpq=>⟨hL q hq hpq,Agree.refl G q⟩⟩⟩
  simp only [Blk.aJ,List.all_eq_true] at hp
  refine hp _ ?_
  rw [List.getD_eq_getElem?_getD,List.getElem?_eq_getElem hi]
  exact List.getElem_mem hi
 | dead=>exact h
 | arq t sz k ti si out es=>exact h
 | arv t sz es=>
  obtain ⟨h0,h⟩:=h
  refine ⟨h0,?_⟩
  rcases h with h | ⟨b,c,h1,h2,h3,h4,h5,h6,h7,h8⟩
  ·exact .inl h
  ·refine .inr ⟨b,c,h1,h2,h3,h4,h5,h6,fun i hi=>⟨(h7 i hi).1,fun j hj=>⟨((h7 i hi).2 j hj).1,((h7 i hi).2 j hj).2.goes (aM.refl w G) (p:=p) ?_ fun q hq hpq=>⟨hL q hq hpq,Agree.refl G q⟩⟩⟩,h8⟩
   exact iE (dK hp i hi) (by rw [(h7 i hi).1];exact hj)
theorem LO (live:List Nat) (e:Env) (t:Nat):get (keep live e) t=if t∈live then get e t else .top:=by
 unfold keep
 induction live with
 | nil=>simp [get]
 | cons x r ih=>
  simp only [List.map_cons,get,ih,List.mem_cons]
  by_cases c:x=t
  ·subst c;simp
  ·rw [if_neg c]
   by_cases c2:t∈r
   ·rw [if_pos c2,if_pos (.inr c2)]
   ·rw [if_neg c2,if_neg (by rintro (rfl | h)<;>simp_all)]
theorem aB.G7 {w:World} {G:Gm} {L:Loc->Prop} {e:Env} {a:Act} (r:aB w G L e a) (live:List Nat):aB w G L (keep live e) a:=fun t=>by
 rw [LO]
 split
 ·exact r t
 ·exact .top _ _
theorem gY {f:List Blk} {o:Heap} {a:Loc}:dom (f :: o) a↔if a.1=o.length then a.2 < f.length else dom o a:=by
 unfold dom
 simp only [hget]
 split
 ·by_cases c:a.2 < f.length
  ·simp [c]
  ·simp [c,List.getElem?_eq_none (Nat.le_of_not_lt c)]
 ·rfl
theorem dD {h:Heap} {a:Loc} (hd:dom h a):a.1 < h.length:=by
 obtain ⟨B,hB⟩:=EY hd
 exact jy hB
theorem LP {h:Heap} {a:Loc} (hd:dom h a) (hl:a.1+1=h.length):a.2 < hlen h:=by
 cases h with
 | nil=>simp at hl
 | cons f o=>
  rw [gY,if_pos (by simpa using hl)] at hd
  exact hd
theorem Rw {n:Nat} {live:List Nat} {s s':St} (hc:cut n live s=some s') {w0:World} {G0:Gm} {h0:Heap} {w:World} {G:Gm} {a:Act} (g:Goes w0 G0 h0 w G s.h) (sm:Sim w G s.h) (r:aB w G (dom s.h) s.env a)
  (hn:hlen h0<=n):Goes w0 G0 h0 w G s'.h∧Sim w G s'.h∧aB w G (dom s'.h) s'.env a∧s'.h≠[]:=by
 unfold cut at hc
 split at hc
 ·cases hc
 ·rename_i f o hh
  split at hc
  ·injection hc with hc;subst hc
   exact ⟨g,sm,r.G7 live,by simp [hh]⟩
  ·split at hc
   ·rename_i c
    obtain ⟨c1,c2,c3⟩:=c
    injection hc with hc;subst hc
    rw [hh] at g sm r
    have hdom:∀ q,dom (f.take n :: o) q↔dom (f :: o) q∧(!(q.1 == o.length) || decide (q.2 < n))=true:=fun q=>by
     rw [gY,gY]
     by_cases e:q.1=o.length
     ·simp [e,List.length_take];omega
     ·simp [e]
    refine ⟨⟨g.os,g.tape,g.output,g.size,g.heap,fun b hk=>g.img b (hk.imp (fun ⟨q,hq,e⟩=>⟨q,((hdom q).1 hq).1,e⟩) id),g.imm,fun q hq=>?_,g.depth,?_,g.xL⟩,⟨fun q B hB=>?_,fun x y b hx hy=>sm.inj x y b ((hdom x).1 hx).1 ((hdom y).1 hy).1,sm.imm,fun b x hx=>⟨(sm.prv b x hx).1,fun q hq=>(sm.prv b x hx).2 q ((hdom q).1 hq).1⟩⟩,fun t=>?_,by simp⟩
    ·obtain ⟨k1,k2⟩:=g.loc q hq
     refine ⟨(hdom q).2 ⟨k1,?_⟩,k2⟩
     by_cases e:q.1=o.length
     ·have hd:=g.depth
      simp only [List.length_cons] at hd
      have:=LP hq (by omega)
      simp [e];omega
     ·simp [e]
    ·show hlen h0<=(f.take n).length
     rw [List.length_take];omega
    ·have hd:dom (f.take n :: o) q:=fq hB
     have hq:=(hdom q).1 hd
     have hB':hget (f :: o) q=some B:=by
      simp only [hget] at hB ⊢
      split
      ·rename_i e
       rw [if_pos e] at hB
       rw [List.getElem?_take] at hB
       split at hB
       ·exact hB
       ·cases hB
      ·rename_i e
       rw [if_neg e] at hB
       exact hB
     have h1:=sm.blk q B hB'
     by_cases e:q.1=o.length
     ·have hmem:B∈f.take n:=by
       simp only [hget,e,if_true] at hB
       exact List.mem_of_getElem? hB
      have hp:=List.all_eq_true.1 c3 B hmem
      exact h1.drop hp fun x hx hpx=>⟨hx.1,(hdom x).2 ⟨hx.2,hpx⟩⟩
     ·have hlt:=dD hq.1
      simp only [List.length_cons] at hlt
      have:∀ x,jC (f :: o) q.1 x->jC (f.take n :: o) q.1 x:=fun x hx=>⟨hx.1,(hdom x).2 ⟨hx.2,by have:=hx.1;simp;omega⟩⟩
      cases B with
      | box t fz v=>
       obtain ⟨b,c,h1,h2,h3,h4,h5,h6⟩:=h1
       exact ⟨b,c,h1,h2,h3,h4,fun j hj=>⟨(h5 j hj).1,(h5 j hj).2.wider this⟩,h6⟩
      | arr t sz vw es=>exact h1
      | map es=>
       obtain ⟨b,en,ck,h1,h2,h3,h4,h5⟩:=h1
       exact ⟨b,en,ck,h1,h2,h3,h4,fun i hi=>⟨(h5 i hi).1,(h5 i hi).2.wider this⟩⟩
      | dead=>exact h1
      | arq t sz k ti si out es=>exact h1
      | arv t sz es=>
       obtain ⟨h0,h⟩:=h1
       refine ⟨h0,?_⟩
       rcases h with h | ⟨b,c,h1,h2,h3,h4,h5,h6,h7,h8⟩
       ·exact .inl h
       ·exact .inr ⟨b,c,h1,h2,h3,h4,h5,h6,fun i hi=>⟨(h7 i hi).1,fun j hj=>⟨((h7 i hi).2 j hj).1,((h7 i hi).2 j hj).2.wider this⟩⟩,h8⟩
    ·have hr:=r.G7 live t
     refine hr.goes (aM.refl w G) (p:=fun a=>!(a.1 == o.length) || decide (a.2 < n)) ?_ fun q hq hpq=>⟨(hdom q).2 ⟨hq,hpq⟩,Agree.refl G q⟩
     unfold Qh at c2
     have key:∀ (e:Env),(e.all fun x=>x.2.aJ fun a=>!(a.1 == o.length) || decide (a.2 < n))=true->(get e t).aJ (fun a=>!(a.1 == o.length) || decide (a.2 < n))=true:=fun e=>by
      induction e with
      | nil=>intro _;simp [get,AV.aJ]
      | cons x e ih=>
       intro hall
       simp only [List.all_cons,Bool.and_eq_true] at hall
       obtain ⟨j,v⟩:=x
       simp only [get]
       split
       ·exact hall.1
       ·exact ih hall.2
     exact key _ c2
   ·injection hc with hc;subst hc
    exact ⟨g,sm,r.G7 live,by simp [hh]⟩
def eX (P:Program) (H:Hints) (O:Orc):Prop:=∀ (f:FuncId) (N:Nat) (D:List Deferred) (c:Code) (n:Nat) (live:List Nat) (st:St) (ex:Ex) (st':St),O.code (.aj n live (cK P H f N c)) st=some (ex,st') ->
 ∀ (w0:World) (G0:Gm) (h0:Heap) (w:World) (G:Gm) (a:Act),Goes w0 G0 h0 w G st.h->Sim w G st.h->st.h≠[]->aB w G (dom st.h) st.env a->a.tmps.size=N->a.defers=D->hlen h0<=n ->
  DD P c (Post N D w0 G0 h0 ex st') a w
theorem jo {O:Orc} (hO:bP P O) {H:Hints} (hL:eX P H O) {K:Cfg} {f:FuncId} {N:Nat} {D:List Deferred}:∀ (c:Code) (st:St) (ex:Ex) (st':St),evC K O (cK P H f N c) st=some (ex,st') ->
  ∀ (w0:World) (G0:Gm) (h0:Heap) (w:World) (G:Gm) (a:Act),Goes w0 G0 h0 w G st.h->Sim w G st.h->st.h≠[]->aB w G (dom st.h) st.env a->a.tmps.size=N->a.defers=D->c.wp P (Post N D w0 G0 h0 ex st') a w
 | .skip,st,ex,st',he,w0,G0,h0,w,G,a,g,s,hn,r,hN,hd=>by
  simp only [cK,evC,Option.some.injEq,Prod.mk.injEq] at he
  obtain ⟨rfl,rfl⟩:=he
  exact wp_skip ⟨G,s,g,r,hN,hd,rfl⟩
 | .label _,st,ex,st',he,w0,G0,h0,w,G,a,g,s,hn,r,hN,hd=>by
  simp only [cK,evC,Option.some.injEq,Prod.mk.injEq] at he
  obtain ⟨rfl,rfl⟩:=he
  exact wp_label ⟨G,s,g,r,hN,hd,rfl⟩
 | .region id ops draw,st,ex,st',he,w0,G0,h0,w,G,a,g,s,hn,r,hN,hd=>by
  simp only [cK] at he
  cases draw with
  | true=>
   simp only [if_true] at he
   exact Nn hO he g s hn r hN hd
  | false=>
   simp only [Bool.false_eq_true,if_false,evC] at he
   exact wp_region_list (xG hO _ _ _ _ he w0 G0 h0 w G a g s hn r hN hd)
 | .seq x y,st,ex,st',he,w0,G0,h0,w,G,a,g,s,hn,r,hN,hd=>by
  simp only [cK,evC] at he
  have hx:=jo hO hL (K:=K) (f:=f) (N:=N) (D:=D) x st
  refine wp_seq ?_
  split at he
  ·rename_i s1 h1
   refine wp_mono (hx _ _ h1 w0 G0 h0 w G a g s hn r hN hd) fun e a' w' p=>?_
   have hne:s1.h≠[]:=by
    obtain ⟨G',q1,q2,_⟩:=p
    intro e0
    have h1:=q2.depth;have h2:=g.depth
    rw [e0] at h1
    cases hs:st.h with
    | nil=>exact hn hs
    | cons q t=>rw [hs] at h2;simp at h1 h2;omega
   obtain ⟨G',q1,q2,q3,q4,q5,rfl⟩:=p
   exact jo hO hL y s1 ex st' he w0 G0 h0 w' G' a' q2 q1 hne q3 q4 q5
  ·rename_i hnn
   refine wp_mono (hx ex st' he w0 G0 h0 w G a g s hn r hN hd) fun e a' w' p=>?_
   cases ex with
   | norm=>exact absurd he (hnn st')
   | exit id=>have p':=p;obtain ⟨G',q1,q2,q3,q4,q5,rfl⟩:=p;exact p'
   | ret=>have p':=p;obtain ⟨G',q1,q2,q3,q4,q5,rfl⟩:=p;exact p'
   | pan v=>have p':=p;obtain ⟨G',q1,q2,q3,q4,q5,x,rfl,_⟩:=p;exact p'
 | .cond x c1 c2,st,ex,st',he,w0,G0,h0,w,G,a,g,s,hn,r,hN,hd=>by
  simp only [cK] at he
  split at he
  ·rename_i y hy
   simp only [evC] at he
   split at he
   ·rename_i t ht
    have hr:=aC r hy
    rw [ht] at hr
    have hb:=bC hr
    cases t with
    | true=>
     simp only [if_true] at he
     exact wp_cond_true hb (jo hO hL c1 st ex st' he w0 G0 h0 w G a g s hn r hN hd)
    | false=>
     simp only [Bool.false_eq_true,if_false] at he
     exact wp_cond_false hb (jo hO hL c2 st ex st' he w0 G0 h0 w G a g s hn r hN hd)
   ·cases he
  ·simp [evC] at he
 | .block id c,st,ex,st',he,w0,G0,h0,w,G,a,g,s,hn,r,hN,hd=>by
  simp only [cK,evC] at he
  have hx:=jo hO hL (K:=K) (f:=f) (N:=N) (D:=D) c st
  refine wp_block ?_
  split at he
  ·rename_i j s1 h1
   refine wp_mono (hx _ _ h1 w0 G0 h0 w G a g s hn r hN hd) fun e a' w' p=>?_
   obtain ⟨G',q1,q2,q3,q4,q5,rfl⟩:=p
   split at he
   ·rename_i hj
    simp only [Option.some.injEq,Prod.mk.injEq] at he
    obtain ⟨rfl,rfl⟩:=he
    simp only [Exit.inBlock,hj,if_true]
    exact ⟨G',q1,q2,q3,q4,q5,rfl⟩
   ·rename_i hj
    simp only [Option.some.injEq,Prod.mk.injEq] at he
    obtain ⟨rfl,rfl⟩:=he
    simp only [Exit.inBlock,hj,if_false]
    exact ⟨G',q1,q2,q3,q4,q5,rfl⟩
  ·rename_i hnn
   refine wp_mono (hx ex st' he w0 G0 h0 w G a g s hn r hN hd) fun e a' w' p=>?_
   cases ex with
   | exit j=>exact absurd he (hnn j st')
   | norm=>have p':=p;obtain ⟨G',q1,q2,q3,q4,q5,rfl⟩:=p;exact p'
   | ret=>have p':=p;obtain ⟨G',q1,q2,q3,q4,q5,rfl⟩:=p;exact p'
   | pan v=>have p':=p;obtain ⟨G',q1,q2,q3,q4,q5,x,rfl,_⟩:=p;exact p'
 | .loop c,st,ex,st',he,w0,G0,h0,w,G,a,g,s,hn,r,hN,hd=>by
  simp only [cK,evC] at he
  exact E7 (hL f N D c _ _ _ ex st' he w0 G0 h0 w G a g s hn (r.G7 _) hN hd g.frame)
 | .exit id,st,ex,st',he,w0,G0,h0,w,G,a,g,s,hn,r,hN,hd=>by
  simp only [cK,evC,Option.some.injEq,Prod.mk.injEq] at he
  obtain ⟨rfl,rfl⟩:=he
  exact wp_exit ⟨G,s,g,r,hN,hd,rfl⟩
 | .ret,st,ex,st',he,w0,G0,h0,w,G,a,g,s,hn,r,hN,hd=>by
  simp only [cK,evC,Option.some.injEq,Prod.mk.injEq] at he
  obtain ⟨rfl,rfl⟩:=he
  exact wp_ret ⟨G,s,g,r,hN,hd,rfl⟩
 | .scope c,st,ex,st',he,w0,G0,h0,w,G,a,g,s,hn,r,hN,hd=>by
  simp only [cK,evC] at he
  refine wp_scope_straight (wp_mono (jo hO hL c st ex st' he w0 G0 h0 w G a g s hn r hN hd) fun e a' w' p=>?_)
  cases ex with
  | exit j=>have p':=p;obtain ⟨G',q1,q2,q3,q4,q5,rfl⟩:=p;exact p'
  | norm=>have p':=p;obtain ⟨G',q1,q2,q3,q4,q5,rfl⟩:=p;exact p'
  | ret=>have p':=p;obtain ⟨G',q1,q2,q3,q4,q5,rfl⟩:=p;exact p'
  | pan v=>have p':=p;obtain ⟨G',q1,q2,q3,q4,q5,x,rfl,_⟩:=p;exact p'
 | .rangeFunc _ _ _ _,st,ex,st',he,w0,G0,h0,w,G,a,g,s,hn,r,hN,hd=>by simp [cK,evC] at he
 | .goto _,st,ex,st',he,w0,G0,h0,w,G,a,g,s,hn,r,hN,hd=>by simp [cK,evC] at he
 | .refuse _,st,ex,st',he,w0,G0,h0,w,G,a,g,s,hn,r,hN,hd=>by simp [cK,evC] at he
theorem xN {O:Orc} (hO:bP P O) {H:Hints} (hL:eX P H O) (K:Cfg):eX P H (step K O):=by
 intro f N D c n live st ex st' he w0 G0 h0 w G a g s hn r hN hd hle
 simp only [step,evC] at he
 have hx:=jo hO hL (K:=K) (f:=f) (N:=N) (D:=D) c st
 refine E8 ?_
 split at he
 ·rename_i s1 h1
  split at he
  ·rename_i s2 hcut
   refine wp_mono (hx _ _ h1 w0 G0 h0 w G a g s hn r hN hd) fun e a' w' p=>?_
   obtain ⟨G',q1,q2,q3,q4,q5,rfl⟩:=p
   obtain ⟨k1,k2,k3,k4⟩:=Rw hcut q2 q1 q3 hle
   exact hL f N D c n live s2 ex st' he w0 G0 h0 w' G' a' k1 k2 k4 k3 q4 q5 hle
  ·cases he
 ·rename_i hnn
  refine wp_mono (hx ex st' he w0 G0 h0 w G a g s hn r hN hd) fun e a' w' p=>?_
  cases ex with
  | norm=>exact absurd he (hnn st')
  | exit j=>have p':=p;obtain ⟨G',q1,q2,q3,q4,q5,rfl⟩:=p;exact p'
  | ret=>have p':=p;obtain ⟨G',q1,q2,q3,q4,q5,rfl⟩:=p;exact p'
  | pan v=>have p':=p;obtain ⟨G',q1,q2,q3,q4,q5,x,rfl,_⟩:=p;exact p'
def tS (tmps:Array Value):ResultVar->Sem Value
 | .tmp t=>pure (tmps.getD t undef)
 | .cell b t=>do loadVar t (<- asAddr (tmps.getD b undef))
theorem rM {w:World} {G:Gm} {h:Heap} {N:Nat} {e:Env} {a:Act} (s:Sim w G h) (r:aB w G (dom h) e a):∀ {rs:List ResultVar} {cs:List gG} {vs:List AV},BW P N rs=some cs->jW { env:=e,h:=h } cs=some vs ->
  ∃ xs:List Value,(rs.mapM (tS a.tmps)).run P w=.ok xs w∧xs.length=vs.length ∧
   ∀ i,i < vs.length->az w G (dom h) (vs.getD i .top) (xs.getD i undef)
 | [],cs,vs,hc,he=>by
  simp only [BW,Option.some.injEq] at hc
  subst hc
  simp only [jW,Option.some.injEq] at he
  subst he
  exact ⟨[],rfl,rfl,fun i hi=>by simp at hi⟩
 | .tmp t :: rs,cs,vs,hc,he=>by
  simp only [BW] at hc
  split at hc
  ·rename_i cs' hcs
   injection hc with hc;subst hc
   simp only [jW,tG] at he
   split at he
   ·rename_i vs' hvs
    injection he with he;subst he
    obtain ⟨xs,k1,k2,k3⟩:=rM s r hcs hvs
    refine ⟨a.tmps.getD t undef :: xs,?_,by simp [k2],fun i hi=>?_⟩
    ·rw [List.mapM_cons]
     simp only [tS,Sem.run_bind,Sem.run_pure,Result.andThen_ok,k1]
    ·cases i with
     | zero=>simpa using r t
     | succ i=>simpa using k3 i (by simpa using hi)
   ·cases he
  ·cases hc
 | .cell b t :: rs,cs,vs,hc,he=>by
  simp only [BW] at hc
  split at hc
  ·rename_i ag sz cs' hsh hcs
   split at hc
   ·rename_i hsz
    injection hc with hc;subst hc
    simp only [jW,tG] at he
    split at he
    ·rename_i v hv
     split at he
     ·rename_i vs' hvs
      injection he with he;subst he
      obtain ⟨xs,k1,k2,k3⟩:=rM s r hcs hvs
      obtain ⟨y,l1,l2⟩:=uD (P:=P) s (r b) hsh hsz hv
      have hA:(do loadVar t (<- asAddr (a.tmps.getD b undef)):Sem Value).run P w=.ok y w:=by
       unfold Instr.loadAt at l1
       generalize a.tmps.getD b undef=q at l1
       cases q with
       | pointer p=>
        cases p with
        | none=>simp [Instr.sureAddr] at l1
        | some p=>simpa [Instr.sureAddr,asAddr] using l1
       | _=>simp [Instr.sureAddr] at l1
      refine ⟨y :: xs,?_,by simp [k2],fun i hi=>?_⟩
      ·rw [List.mapM_cons,Sem.run_bind,show (tS a.tmps (.cell b t)).run P w=.ok y w from hA]
       simp only [Result.andThen_ok,Sem.run_bind,k1,Sem.run_pure]
      ·cases i with
       | zero=>simpa using l2
       | succ i=>simpa using k3 i (by simpa using hi)
     ·cases he
    ·cases he
   ·cases hc
  ·cases hc
theorem mW {fn:Func} {tmps:Array Value} {w:World} {xs:List Value} (h:(fn.results.toList.mapM (tS tmps)).run P w=.ok xs w) :
  (results fn tmps).run P w=.ok (match xs with | [x]=>x | l=>.tuple l.toArray) w:=by
 have e:(fn.results.mapM (tS tmps)).run P w=.ok xs.toArray w:=by
  rw [Array.mapM_eq_mapM_toList]
  simp [h]
 have e2:results fn tmps=(do let vs <- fn.results.mapM (tS tmps);pure (if h:vs.size=1 then vs[0] else .tuple vs)):=by
  unfold results
  congr 1
 rw [e2,Sem.run_bind,e,Result.andThen_ok,Sem.run_pure]
 match xs with
 | []=>rfl
 | [x]=>rfl
 | x :: y :: l=>rfl
theorem KF {w:World} {G:Gm} {h:Heap} {N:Nat} {e:Env} {a:Act} (s:Sim w G h) (r:aB w G (dom h) e a) {fn:Func} {cs:List gG} {v:AV} (hc:BW P N fn.results.toList=some cs) (he:xE { env:=e,h:=h } cs=some v) :
  ∃ x,(results fn a.tmps).run P w=.ok x w∧az w G (dom h) v x:=by
 unfold xE at he
 split at he
 ·rename_i u hu
  injection he with he;subst he
  obtain ⟨xs,k1,k2,k3⟩:=rM s r hc hu
  match xs,k2 with
  | [x],_=>exact ⟨x,mW k1,by simpa using k3 0 (by simp)⟩
 ·rename_i us hne hu
  injection he with he;subst he
  obtain ⟨xs,k1,k2,k3⟩:=rM s r hc hu
  refine ⟨.tuple xs.toArray,?_,.tup _ _ _ (by simp [k2]) fun i hi=>by rw [gD];exact k3 i hi⟩
  rw [mW k1]
  match xs,k2 with
  | [],_=>rfl
  | [x],k2=>
   match us,k2 with
   | [u],_=>exact absurd rfl (hne u)
  | x :: y :: l,_=>rfl
 ·cases he
theorem Sim.push {w:World} {G:Gm} {h:Heap} (s:Sim w G h):Sim w G ([] :: h):=by
 have hg:∀ a,hget ([] :: h) a=if a.1=h.length then none else hget h a:=fun a=>by simp [hget]
 have hd:∀ a,dom ([] :: h) a↔dom h a:=fun a=>by
  unfold dom
  rw [hg]
  split
  ·rename_i e
   simp only [Option.isSome_none,Bool.false_eq_true,false_iff]
   intro hh
   have:=dD (h:=h) (a:=a) hh
   omega
  ·rfl
 refine ⟨fun a B hB=>?_,fun x y b hx hy=>s.inj x y b ((hd x).1 hx) ((hd y).1 hy),s.imm,fun b x hx=>⟨(s.prv b x hx).1,fun q hq=>(s.prv b x hx).2 q ((hd q).1 hq)⟩⟩
 rw [hg] at hB
 split at hB
 ·cases hB
 ·exact (s.blk a B hB).kept (aM.refl w G) (fun q hq=>⟨⟨hq.1,(hd q).2 hq.2⟩,Agree.refl G q⟩) ⟨rfl,rfl,rfl⟩ (fun _ _=>rfl) (fun _ _ _ hi=>hi) fun _ _ ht=>⟨ht,rfl,fun _ ho=>ho⟩
theorem iD {h:Heap} (a:Loc):dom ([] :: h) a↔dom h a:=by
 unfold dom
 simp only [hget]
 split
 ·rename_i e
  simp only [List.getElem?_nil,Option.isSome_none,Bool.false_eq_true,false_iff]
  intro hh
  have:=dD (h:=h) (a:=a) hh
  omega
 ·rfl
theorem Ee {w0:World} {G0:Gm} {h0:Heap} {w:World} {G:Gm} {f:List Blk} {o:Heap} (s:Sim w G (f :: o)) (g:Goes w0 G0 ([] :: h0) w G (f :: o)) {v v':AV} {h':Heap} {x:Value} (hv:az w G (dom (f :: o)) v x)
  (hp:merge v f o=some (v',h')):∃ G',Sim w G' h'∧Goes w0 G0 h0 w G' h'∧az w G' (dom h') v' x:=by
 cases o with
 | nil=>cases hp
 | cons gf o=>
  simp only [merge,Option.some.injEq,Prod.mk.injEq] at hp
  obtain ⟨rfl,rfl⟩:=hp
  have E9:=g.depth
  simp only [List.length_cons] at E9
  generalize hr:moved o.length gf.length=r
  have r_eq:∀ a,r a=if a.1=o.length+1 then (o.length,gf.length+a.2) else a:=fun a=>by rw [<-hr];rfl
  let back:Loc->Loc:=fun a=>if a.1=o.length∧gf.length<=a.2 then (o.length+1,a.2 - gf.length) else a
  let G2:Gm:={ blk:=fun a=>G.blk (back a),len:=fun a=>G.len (back a),cap:=fun a=>G.cap (back a),imm:=G.imm,tl:=fun b=>(G.tl b).map fun x=>(r x.1,x.2) }
  have hg2:∀ a,hget ((gf++f.map (Blk.ren r)) :: o) a=if a.1=o.length∧gf.length<=a.2 then (f[a.2 - gf.length]?).map (Blk.ren r) else hget (gf :: o) a:=fun a=>by
   simp only [hget]
   by_cases h1:a.1=o.length
   ·simp only [h1,if_true,true_and]
    by_cases h2:gf.length<=a.2
    ·rw [if_pos h2,List.getElem?_append_right h2,List.getElem?_map]
    ·rw [if_neg h2,List.getElem?_append_left (by omega)]
   ·simp [h1]
  have lvl:∀ {a},dom (f :: gf :: o) a->a.1<=o.length+1:=fun h=>by have:=dD h;simp only [List.length_cons] at this;omega
  have old:∀ a,hget (f :: gf :: o) a=if a.1=o.length+1 then f[a.2]? else hget (gf :: o) a:=fun a=>by
   rw [hget];simp only [List.length_cons]
  have fwd:∀ q,dom (f :: gf :: o) q->dom ((gf++f.map (Blk.ren r)) :: o) (r q)∧back (r q)=q:=fun q hq=>by
   have hl:=lvl hq
   unfold dom at hq ⊢
   rw [old] at hq
   rw [hg2,r_eq]
   by_cases h1:q.1=o.length+1
   ·rw [if_pos h1] at hq ⊢
    obtain ⟨q1,q2⟩:=q
    simp only at h1
    subst h1
    refine ⟨by simpa using hq,?_⟩
    simp [back]
   ·rw [if_neg h1] at hq ⊢
    have h2:¬ (q.1=o.length∧gf.length<=q.2):=fun ⟨e1,e2⟩=>by
     rw [hget,if_pos e1,List.getElem?_eq_none e2] at hq
     cases hq
    rw [if_neg h2]
    refine ⟨hq,?_⟩
    simp [back,h2]
  have bwd:∀ a,dom ((gf++f.map (Blk.ren r)) :: o) a->dom (f :: gf :: o) (back a)∧r (back a)=a:=fun a ha=>by
   unfold dom at ha ⊢
   rw [hg2] at ha
   rw [old,r_eq]
   by_cases h1:a.1=o.length∧gf.length<=a.2
   ·rw [if_pos h1] at ha
    have hb:back a=(o.length+1,a.2 - gf.length):=by simp [back,h1]
    rw [hb]
    refine ⟨by simpa using ha,?_⟩
    obtain ⟨a1,a2⟩:=a
    simp only at h1
    simp [h1.1];omega
   ·rw [if_neg h1] at ha
    have hb:back a=a:=by simp [back,h1]
    rw [hb]
    have h2:¬ a.1=o.length+1:=fun e=>by
     have:dom (gf :: o) a:=ha
     have:=dD this
     simp only [List.length_cons] at this
     omega
    rw [if_neg h2,if_neg h2]
    exact ⟨ha,rfl⟩
  have agr:∀ q,dom (f :: gf :: o) q->G2.blk (r q)=G.blk q∧G2.len (r q)=G.len q∧G2.cap (r q)=G.cap q:=fun q hq=>by
   have:=(fwd q hq).2
   exact ⟨by show G.blk _=_;rw [this],by show G.len _=_;rw [this],by show G.cap _=_;rw [this]⟩
  have hI:∀ b o,G2.imm b o↔G.imm b o:=fun _ _=>Iff.rfl
  have htl:∀ b,G2.tl b≠none->G.tl b≠none:=fun b hb e=>hb (by show (G.tl b).map _=none;rw [e];rfl)
  have hpu:∀ b,Held G0 ([] :: h0) b->Held G0 h0 b:=fun b hk=>hk.imp (fun ⟨q,hq,e⟩=>⟨q,(iD q).1 hq,e⟩) id
  refine ⟨G2,⟨fun a B hB=>?_,fun x y b hx hy ex ey=>?_,s.imm,fun b x hx=>?_⟩,⟨g.os,g.tape,g.output,g.size,fun b hb hn=>g.heap b hb fun hk=>hn (hpu b hk),fun b hk hb=>?_,g.imm,fun q hq=>?_,by simp only [List.length_cons];omega,?_,
   fun b o hb hn=>g.xL b o hb fun hk=>hn (hpu b hk)⟩,?_⟩
  rotate_left 2
  ·have h1:G.tl b≠none:=htl b (by rw [hx];simp)
   cases hy:G.tl b with
   | none=>exact absurd hy h1
   | some y=>
    obtain ⟨k1,k2⟩:=s.prv b y hy
    exact ⟨k1,fun q hq e=>k2 (back q) (bwd q hq).1 e⟩
  rotate_right 2
  ·
   rw [hg2] at hB
   by_cases h1:a.1=o.length∧gf.length<=a.2
   ·rw [if_pos h1,Option.map_eq_some_iff] at hB
    obtain ⟨B0,hB0,rfl⟩:=hB
    have hb:back a=(o.length+1,a.2 - gf.length):=by simp [back,h1]
    have h2:hget (f :: gf :: o) (o.length+1,a.2 - gf.length)=some B0:=by rw [old];simpa using hB0
    have hd:=fq h2
    have h3:=s.blk _ B0 h2
    refine h3.IP (r:=r) hI (fun q hq=>⟨⟨?_,(fwd q hq.2).1⟩,agr q hq.2⟩) ⟨by show G.blk _=_;rw [hb],by show G.len _=_;rw [hb],by show G.cap _=_;rw [hb]⟩ fun b' i ht=>by
     show (G.tl b').map _=_
     rw [ht]
     have e1:r (o.length+1,a.2 - gf.length)=a:=by rw [<-hb];exact (bwd a (fq (B:=B0.ren r) (by rw [hg2,if_pos h1,hB0];rfl))).2
     simp only [Option.map_some,e1]
    have:=lvl hq.2
    rw [r_eq]
    split
    ·simp only;omega
    ·rename_i hne;omega
   ·rw [if_neg h1] at hB
    have hb:back a=a:=by simp [back,h1]
    have ha1:a.1<=o.length:=by have:=dD (fq hB);simp only [List.length_cons] at this;omega
    have h2:hget (f :: gf :: o) a=some B:=by rw [old,if_neg (by omega)];exact hB
    refine (s.blk a B h2).kept (aM.refl w G) (fun q hq=>?_) ⟨by show G.blk _=_;rw [hb],by show G.len _=_;rw [hb],by show G.cap _=_;rw [hb]⟩ (fun _ _=>rfl) (fun _ _ _ hi=>hi) fun b' i ht=>⟨by
     show (G.tl b').map _=_
     rw [ht]
     have e1:r a=a:=by rw [r_eq,if_neg (by omega)]
     simp only [Option.map_some,e1],rfl,fun _ ho=>ho⟩
    have hq1:q.1<=a.1:=hq.1
    have e1:r q=q:=by rw [r_eq,if_neg (by omega)]
    obtain ⟨k1,k2⟩:=fwd q hq.2
    rw [e1] at k1 k2
    have k3:=agr q hq.2
    rw [e1] at k3
    exact ⟨⟨hq1,k1⟩,.inl k3⟩
  ·have hx':=bwd x hx
   have hy':=bwd y hy
   have:=s.inj _ _ b hx'.1 hy'.1 ex ey
   rw [<-hx'.2,<-hy'.2,this]
  ·refine hpu b (g.img b ?_ hb)
   rcases hk with ⟨a,ha,e⟩ | hk
   ·exact .of (bwd a ha).1 e
   ·exact .inr (htl b hk)
  ·obtain ⟨e0,e1⟩:=g.loc q ((iD q).2 hq)
   have hl:=dD hq
   have er:r q=q:=by rw [r_eq,if_neg (by omega)]
   obtain ⟨k1,k2⟩:=fwd q e0
   rw [er] at k1 k2
   have k3:=agr q e0
   rw [er] at k3
   exact ⟨k1,e1.trans (.inl k3)⟩
  ·cases h0 with
   | nil=>simp [hlen]
   | cons f0 o0=>
    show f0.length<=(gf++f.map (Blk.ren r)).length
    cases hf:f0.length with
    | zero=>omega
    | succ m=>
     have hq:dom (f0 :: o0) (o0.length,m):=by rw [gY];simp [hf]
     have:=(g.loc (o0.length,m) ((iD _).2 hq)).1
     simp only [List.length_cons] at E9
     unfold dom at this
     rw [old,if_neg (by simp only;omega),hget,if_pos (by simp only;omega)] at this
     have hlt:m < gf.length:=by
      rcases Nat.lt_or_ge m gf.length with h | h
      ·exact h
      ·rw [List.getElem?_eq_none h] at this;cases this
     simp only [List.length_append]
     omega
  ·exact hv.IP (fun b o=>(hI b o).2) fun q hq=>⟨(fwd q hq).1,agr q hq⟩
theorem BV {w0:World} {G0:Gm} {h0:Heap} {w:World} {G:Gm} {h:Heap} (s:Sim w G h) (g:Goes w0 G0 ([] :: h0) w G h) {v v':AV} {h':Heap} {x:Value} (hv:az w G (dom h) v x) (hp:pop v h=some (v',h')) :
  ∃ G',Sim w G' h'∧Goes w0 G0 h0 w G' h'∧az w G' (dom h') v' x:=by
 unfold pop at hp
 split at hp
 ·rename_i u f o hvw
  split at hp
  ·rename_i XL
   simp only [Option.some.injEq,Prod.mk.injEq] at hp
   obtain ⟨rfl,rfl⟩:=hp
   obtain ⟨G',k1,k2,k3⟩:=jD _ s hv hvw
   have g':=g.trans k2
   have hd:∀ q,dom o q↔dom (f :: o) q∧q.1 < o.length:=fun q=>by
    rw [gY]
    constructor
    ·intro h
     have:=dD h
     rw [if_neg (by omega)]
     exact ⟨h,this⟩
    ·rintro ⟨h,hl⟩
     rwa [if_neg (by omega)] at h
   have E9:=g'.depth
   simp only [List.length_cons] at E9
   have hpu:∀ b,Held G0 ([] :: h0) b->Held G0 h0 b:=fun b hk=>hk.imp (fun ⟨q,hq,e⟩=>⟨q,(iD q).1 hq,e⟩) id
   refine ⟨G',⟨fun q B hB=>?_,fun x y b hx hy=>k1.inj x y b ((hd x).1 hx).1 ((hd y).1 hy).1,k1.imm,fun b x hx=>⟨(k1.prv b x hx).1,fun q hq=>(k1.prv b x hx).2 q ((hd q).1 hq).1⟩⟩,⟨g'.os,g'.tape,g'.output,g'.size,fun b hb hn=>g'.heap b hb fun hk=>hn (hpu b hk),
    fun b hk hb=>?_,g'.imm,fun q hq=>?_,by omega,?_,fun b o hb hn=>g'.xL b o hb fun hk=>hn (hpu b hk)⟩,?_⟩
   ·have hq:dom o q:=fq hB
    have hB':hget (f :: o) q=some B:=by
     have:=dD hq
     simp only [hget]
     rw [if_neg (by omega)]
     exact hB
    exact (k1.blk q B hB').kept (aM.refl w G') (fun y hy=>⟨⟨hy.1,(hd y).2 ⟨hy.2,by have:=hy.1;have:=dD hq;omega⟩⟩,Agree.refl G' y⟩) ⟨rfl,rfl,rfl⟩ (fun _ _=>rfl) (fun _ _ _ hi=>hi) fun _ _ ht=>⟨ht,rfl,fun _ ho=>ho⟩
   ·exact hpu b (g'.img b (hk.imp (fun ⟨q,hq,e⟩=>⟨q,((hd q).1 hq).1,e⟩) id) hb)
   ·obtain ⟨e0,e1⟩:=g'.loc q ((iD q).2 hq)
    refine ⟨(hd q).2 ⟨e0,?_⟩,e1⟩
    have:=dD hq
    omega
   ·
    cases h0 with
    | nil=>simp [hlen]
    | cons f0 o0=>
     cases o with
     | nil=>simp at E9
     | cons f1 o1=>
      show f0.length<=f1.length
      cases hf:f0.length with
      | zero=>omega
      | succ m=>
       have hq:dom (f0 :: o0) (o0.length,m):=by rw [gY];simp [hf]
       have:=(g'.loc (o0.length,m) ((iD _).2 hq)).1
       have hq2:=(hd (o0.length,m)).2 ⟨this,by simp only [List.length_cons] at E9 ⊢;omega⟩
       rw [gY] at hq2
       simp only [List.length_cons] at E9
       rw [if_pos (by omega)] at hq2
       exact hq2
   ·exact k3.goes (aM.refl w G') XL fun q hq hpq=>⟨(hd q).2 ⟨hq,by simpa using hpq⟩,Agree.refl G' q⟩
  ·obtain ⟨G',k1,k2,k3⟩:=jD _ s hv hvw
   exact Ee k1 (g.trans k2) k3 hp
 ·cases hp
theorem Np {w0:World} {G0:Gm} {h0:Heap} {w:World} {G:Gm} {h:Heap} (s:Sim w G h) (g:Goes w0 G0 ([] :: h0) w G h) {k:Bool} {v v':AV} {h':Heap} {x:Value} (hv:az w G (dom h) v x) (hp:Nf k v h=some (v',h')) :
  ∃ G',Sim w G' h'∧Goes w0 G0 h0 w G' h'∧az w G' (dom h') v' x:=by
 unfold Nf at hp
 split at hp
 ·split at hp
  ·exact Ee s g hv hp
  ·cases hp
 ·exact BV s g hv hp
theorem Ef (s:St) (r:gG):tG s r.keep=tG s r:=by cases r<;>rfl
theorem uK (s:St):∀ rs:List gG,jW s (rs.map gG.keep)=jW s rs
 | []=>rfl
 | r :: rs=>by simp only [List.map_cons,jW,Ef,uK s rs]
theorem ET (s:St) (k:Bool) (rs:List gG):xE s (Dw k rs)=xE s rs:=by
 unfold Dw
 split
 ·unfold xE
  rw [uK]
 ·rfl
theorem AO:∀ (args:List AV) (k t:Nat),get (cL k args) t=if k<=t then args.getD (t - k) .top else .top
 | [],k,t=>by simp [cL,get]
 | a :: r,k,t=>by
  simp only [cL,get]
  by_cases c:k=t
  ·subst c;simp
  ·rw [if_neg c,AO r (k+1) t]
   by_cases c2:k<=t
   ·rw [if_pos (by omega),if_pos c2]
    obtain ⟨d,rfl⟩:∃ d,t=k+1+d:=⟨t - (k+1),by omega⟩
    rw [show k+1+d - (k+1)=d by omega,show k+1+d - k=d+1 by omega]
    rfl
   ·rw [if_neg (by omega),if_neg c2]
end Go.Ab
