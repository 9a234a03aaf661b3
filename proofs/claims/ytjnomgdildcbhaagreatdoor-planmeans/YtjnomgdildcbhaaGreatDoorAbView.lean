/-
  Owned slices that become slices that nobody writes; the remaining operations on memory.
-/
import Derived.Test.YtjnomgdildcbhaaGreatDoorAbApp
set_option linter.unusedVariables false
set_option linter.unusedSimpArgs false
namespace Go.Ab
open Go.RowKit
variable{P:Program}
theorem qF{w:World}{G:Gm}{h:Heap}(s:Sim w G h){a:Loc}{n:Nat}{x:Value}(hv:az w G (dom h) (.own a n) x){t:TypeId}{sz:Nat}{vw:Bool}{es:List AV}
  (hB:zo w G a t sz vw es) (hn:es.length=n) :
  ∃ G',Sim w G' (aR h a (.arr t sz true es))∧Goes w G h w G' (aR h a (.arr t sz true es))∧az w G' (dom (aR h a (.arr t sz true es))) (.lst es) x:=by
 cases hv with
 |own _ a n m x hLa hm hle ho hx=>
  obtain⟨h0,hd⟩:=hB;have hmn:m=n:=by rw[hm]at h0;injection h0 with h0;omega
  have hxe:=hx hmn;have hI:aN w G w (G.still λb o=>G.blk a=some b∧o<n*sz):=λb o hi=>⟨.inl hi,rfl⟩
  have hgo:=Goes.update (w:=w) (w':=w) (G:=G) (G':=G.still λb o=>G.blk a=some b∧o<n*sz) (B:=.arr t sz true es) hLa rfl rfl rfl (adX _) (λ_ _ _=>rfl) (λ_ _=>⟨rfl,rfl,rfl⟩) (.inl ⟨rfl,rfl,rfl⟩) hI (λ_ hk=>.inl hk) (λ_ _ hk=>hk.elim .inl λhk=>.inr hk.1);refine⟨G.still λb o=>G.blk a=some b∧o<n*sz,s.update (G':=G.still λb o=>G.blk a=some b∧o<n*sz) hLa (adX _) (λ_ _ _=>rfl) (λ_ _=>⟨rfl,rfl,rfl⟩) (.inl ⟨rfl,rfl,rfl⟩) hI (λb o hi=>?_) (λ_ hk=>.inl hk) ?_,hgo,?_⟩
  ·rcases hi with hi |⟨hi,_⟩
   ·exact .inl hi
   ·exact .inr ⟨hi,s.lt hLa hi⟩
  ·refine⟨h0,?_⟩;rcases hd with⟨q1,q2⟩ |⟨b,c,q1,q2,q3,q4,q5,q6,q7,q8⟩
   ·exact .inl ⟨q1,q2⟩
   ·refine .inr ⟨b,c,q1,q2,q3,q4,q5,q6,λi hi=>⟨(q7 i hi).1,λj hj=>⟨((q7 i hi).2 j hj).1,((q7 i hi).2 j hj).2.mono hI λ_ e=>e.elim⟩⟩,λo hi=>⟨rfl,?_⟩⟩;rcases hi with hi |⟨_,hi⟩
    ·exact (q8 o hi).2
    ·rw[hn];exact hi
  ·rcases hd with⟨q1,q2⟩ |⟨b,c,q1,q2,q3,q4,q5,q6,q7,q8⟩
   ·subst q2;have hxv:x=.slice none 0 0:=by rw[hxe];unfold cL;rw[q1]
    rw[hxv];exact .lJ _ _ _
   ·have hxv:x=.slice (some ⟨b,0,none⟩) n (G.cap a):=by rw[hxe];unfold cL;rw[q1]
    rw[hxv];subst hn;refine .lst _ es b 0 _ sz (λi j=>c.getD (i*sz+j) undef) q5 (λi hi=>(q7 i hi).1) (λi j hi hj=>⟨?_,.inr ⟨q1,?_⟩,((q7 i hi).2 j hj).1⟩) λi j hi hj=>((q7 i hi).2 j hj).2.mono hI λ_ e=>e.elim
    ·rw[ad7];refine gU q2 ?_;rw[q3];exact aeL (eP hi hj) (aer _ q5)
    ·rw[ad7];exact eP hi hj
theorem DJ{w:World}{v v':AV}{G:Gm}{h h':Heap}{x:Value}(s:Sim w G h)(hv:az w G (dom h) v x)(he:tF v h=some (v',h')) :
  ∃ G',Sim w G' h'∧Goes w G h w G' h'∧az w G' bF v' x∧v'.cells.length=v.cells.length∧v.isAgg=false∧v'.isAgg=false∧∀ a t s es,hget h a=some (.arv t s es)->hget h' a=some (.arv t s es):=by
 unfold tF at he;split at he
 ·rename_i b m;split at he
  ·rename_i t sz vw es hb;split at he
   ·rename_i hn;simp only[fS,ad2]at he;obtain⟨rfl,rfl⟩:=he;obtain⟨G',k1,k2,k3⟩:=qF s hv (s.blk b _ hb) hn;refine⟨G',k1,k2,k3.goes (aN.refl w G') (p:=λ_=>false) rfl (λ_ _ e=>by cases e),rfl,rfl,rfl,λa t' s' es' ha=>?_⟩;rw[fV,if_neg]
    ·exact ha
    ·rintro⟨rfl,_⟩;rw[hb]at ha;cases ha
   ·cases he
  ·cases he
 ·split at he
  ·rename_i c;simp only[fS,ad2]at he;obtain⟨rfl,rfl⟩:=he;exact⟨G,s,Goes.refl w G h,hv.goes (aN.refl w G) (p:=λ_=>false) c.1 (λ_ _ e=>by cases e),rfl,c.2,c.2,λ_ _ _ _ ha=>ha⟩
  ·cases he
theorem one_cell{v:AV}(h:v.isAgg=false)(hc:v.cells.length=1):v.cells.getD 0 .top=v:=by
 cases v<;>simp_all[AV.isAgg,AV.cells]
theorem Hw{w:World}:∀ (cs:List AV) {G:Gm} {h h':Heap} {xs:Nat->Value} {cs':List AV},Sim w G h->(∀ i,i<cs.length->az w G (dom h) (cs.getD i .top) (xs i))->Bf cs h=some (cs',h') ->
  ∃ G',Sim w G' h'∧Goes w G h w G' h'∧cs'.length=cs.length∧(∀ i,i<cs.length->az w G' bF (cs'.getD i .top) (xs i))∧∀ a t s es,hget h a=some (.arv t s es)->hget h' a=some (.arv t s es)
 | [],G,h,h',xs,cs',s,hv,he=>by
  simp only[Bf,fS,ad2]at he;obtain⟨rfl,rfl⟩:=he;exact⟨G,s,Goes.refl w G h,rfl,λi hi=>by simp at hi,λ_ _ _ _ ha=>ha⟩
 |c :: cs,G,h,h',xs,cs',s,hv,he=>by
  simp only[Bf]at he;split at he
  ·rename_i c' h1 hc;split at he
   ·rename_i cs2 h2 hcs;simp only[fS,ad2]at he;obtain⟨rfl,rfl⟩:=he;obtain⟨G1,k1,k2,k3,_,_,_,k7⟩:=DJ s (by simpa using hv 0 (by simp)) hc;obtain⟨G2,l1,l2,l3,l4,l5⟩:=Hw cs (xs:=λi=>xs (i+1)) k1 (λi hi=>(by simpa using hv (i+1) (by simpa using hi):az w G (dom h) (cs.getD i .top) (xs (i+1))).along k2) hcs;refine⟨G2,l1,k2.trans l2,by simp[l3],λi hi=>?_,λa t s es ha=>l5 a t s es (k7 a t s es ha)⟩;cases i with
    |zero=>simpa using k3.mono l2.imm λ_ e=>e.elim
    |succ i=>simpa using l4 i (by simpa using hi)
   ·cases he
  ·cases he
theorem Qk{w:World}{v v':AV}{G:Gm}{h h':Heap}{xs:Nat->Value}(s:Sim w G h)(hv:∀ j,j<v.cells.length->az w G (dom h) (v.cells.getD j .top) (xs j))(he:Bg v h=some (v',h')) :
  ∃ G',Sim w G' h'∧Goes w G h w G' h'∧v'.cells.length=v.cells.length∧(∀ j,j<v.cells.length->az w G' bF (v'.cells.getD j .top) (xs j))∧∀ a t s es,hget h a=some (.arv t s es)->hget h' a=some (.arv t s es):=by
 unfold Bg at he;split at he
 ·rename_i cs;split at he
  ·rename_i cs' h1 hcs;simp only[fS,ad2]at he;obtain⟨rfl,rfl⟩:=he;exact Hw cs s hv hcs
  ·cases he
 ·by_cases h0:v.cells.length=1∧v.isAgg=false
  ·obtain⟨G',k1,k2,k3,k4,_,k6,k7⟩:=DJ (x:=xs 0) s (by have:=hv 0 (by omega);rwa[one_cell h0.2 h0.1]at this) he;refine⟨G',k1,k2,k4,λj hj=>?_,k7⟩;have:j=0:=by omega
   subst this;rw[one_cell k6 (by omega)];exact k3
  ·have hz:v.cells.length=0:=by
    cases v<;>simp_all[AV.isAgg,AV.cells]
   have:tF v h=if v.pure=true∧v.isAgg=false then some (v,h) else none:=by
    cases v<;>simp_all[tF,AV.cells]
   rw[this]at he;split at he
   ·simp only[fS,ad2]at he;obtain⟨rfl,rfl⟩:=he;exact⟨G,s,Goes.refl w G h,rfl,λj hj=>by omega,λ_ _ _ _ ha=>ha⟩
   ·cases he
theorem Hx{w:World}{sz:Nat}:∀ (es:List AV) {G:Gm} {h h':Heap} {xs:Nat->Nat->Value} {es':List AV},Sim w G h->(∀ i,i<es.length->(es.getD i .top).cells.length=sz∧∀ j,j<sz->az w G (dom h) ((es.getD i .top).cells.getD j .top) (xs i j))->rN es h=some (es',h') ->
  ∃ G',Sim w G' h'∧Goes w G h w G' h'∧es'.length=es.length∧(∀ i,i<es.length->(es'.getD i .top).cells.length=sz∧∀ j,j<sz->az w G' bF ((es'.getD i .top).cells.getD j .top) (xs i j))∧∀ a t s es,hget h a=some (.arv t s es)->hget h' a=some (.arv t s es)
 | [],G,h,h',xs,es',s,hv,he=>by
  simp only[rN,fS,ad2]at he;obtain⟨rfl,rfl⟩:=he;exact⟨G,s,Goes.refl w G h,rfl,λi hi=>by simp at hi,λ_ _ _ _ ha=>ha⟩
 |c :: es,G,h,h',xs,es',s,hv,he=>by
  simp only[rN]at he;split at he
  ·rename_i c' h1 hc;split at he
   ·rename_i es2 h2 hcs;simp only[fS,ad2]at he;obtain⟨rfl,rfl⟩:=he;have hv0:=hv 0 (by simp);simp only[aeM]at hv0;obtain⟨G1,k1,k2,k3,k4,k5⟩:=Qk (xs:=xs 0) s (λj hj=>hv0.2 j (by omega)) hc;obtain⟨G2,l1,l2,l3,l4,l5⟩:=Hx es (xs:=λi=>xs (i+1)) k1 (λi hi=>by
     have:=hv (i+1) (by simpa using hi);simp only[afz]at this;exact⟨this.1,λj hj=>(this.2 j hj).along k2⟩) hcs
    refine⟨G2,l1,k2.trans l2,by simp[l3],λi hi=>?_,λa t s es ha=>l5 a t s es (k5 a t s es ha)⟩;cases i with
    |zero=>
     simp only[aeM];exact⟨by omega,λj hj=>(k4 j (by omega)).mono l2.imm λ_ e=>e.elim⟩
    |succ i=>
     simp only[afz];exact l4 i (by simpa using hi)
   ·cases he
  ·cases he
theorem Ql{w:World}{G:Gm}{h:Heap}(s:Sim w G h){a:Loc}{n:Nat}{x:Value}(hv:az w G (dom h) (.own a n) x){t:TypeId}{sz:Nat}{es es':List AV}{h':Heap}
  (hb:hget h a=some (.arv t sz es)) (hn:es.length=n) (he:rN es h=some (es',h')) :
  ∃ G',Sim w G' (aR h' a (.arr t sz true es'))∧Goes w G h w G' (aR h' a (.arr t sz true es'))∧az w G' (dom (aR h' a (.arr t sz true es'))) (.lst es') x:=by
 obtain⟨h0,hd⟩:=s.blk a _ hb;rcases hd with⟨h1,h2⟩ |⟨b,c,h1,h2,h3,h4,h5,h6,h7,h8⟩
 ·subst h2;simp only[rN,fS,ad2]at he;obtain⟨rfl,rfl⟩:=he;exact qF (vw:=false) s hv ⟨h0,.inl ⟨h1,rfl⟩⟩ hn
 ·obtain⟨G1,k1,k2,k3,k4,k5⟩:=Hx es (xs:=λi j=>c.getD (i*sz+j) undef) s (λi hi=>⟨(h7 i hi).1,λj hj=>((h7 i hi).2 j hj).2.wider λ_=>wQ⟩) he;have hb1:=k5 a t sz es hb;obtain⟨g0,gd⟩:=k1.blk a _ hb1;have hag:G1.blk a=G.blk a∧G1.len a=G.len a∧G1.cap a=G.cap a:=by
   rcases (k2.loc a (gj hb)).2 with q |⟨m,m',q1,q2,q3⟩
   ·exact q
   ·rw[h0]at q1;rw[g0]at q2;injection q1 with q1
    injection q2 with q2
    omega
  have hno:∀ o,¬ G1.imm b o:=by
   rcases gd with⟨q1,_⟩ |⟨b2,c2,q1,_,_,_,_,_,_,q8⟩
   ·rw[hag.1,h1]at q1;cases q1
   ·rw[hag.1,h1]at q1;injection q1 with q1;subst q1;exact q8
  have hA:zo w G1 a t sz false es':=⟨by rw[hag.2.1,h0,k3],.inr ⟨b,c,hag.1.trans h1,h2,by rw[hag.2.2];exact h3,h4,by rw[hag.2.2,k3];exact h5,by rw[hag.2.2];exact h6,
   λi hi=>⟨(k4 i (by omega)).1,λj hj=>⟨((h7 i (by omega)).2 j hj).1,(k4 i (by omega)).2 j hj⟩⟩,λo ho=>absurd ho (hno o)⟩⟩
  obtain⟨G2,l1,l2,l3⟩:=qF k1 (hv.along k2) hA (by omega);exact⟨G2,l1,k2.trans l2,l3⟩
mutual
theorem lI{p:Loc->Bool}{w:World}:∀ (v:AV) {G:Gm} {h h':Heap} {x:Value} {v':AV},Sim w G h->az w G (dom h) v x->v.view p h=some (v',h') ->
  ∃ G',Sim w G' h'∧Goes w G h w G' h'∧az w G' (dom h') v' x
 |.own a n,G,h,h',x,v',s,hv,he=>by
  simp only[AV.view]at he;split at he
  ·split at he
   ·rename_i t sz vw es hb;split at he
    ·rename_i hn;simp only[fS,ad2]at he;obtain⟨rfl,rfl⟩:=he;exact qF s hv (s.blk a _ hb) hn
    ·cases he
   ·rename_i t sz k ti si out es hb;split at he
    ·rename_i hn;simp only[fS,ad2]at he;obtain⟨rfl,rfl⟩:=he;exact qF s hv (s.blk a _ hb).1 hn
    ·cases he
   ·rename_i t sz es hb;split at he
    ·rename_i hn;split at he
     ·rename_i es' h1 hf;simp only[fS,ad2]at he;obtain⟨rfl,rfl⟩:=he;exact Ql s hv hb hn hf
     ·cases he
    ·cases he
   ·cases he
  ·simp only[fS,ad2]at he;obtain⟨rfl,rfl⟩:=he;exact⟨G,s,Goes.refl w G h,hv⟩
 |.agg cs,G,h,h',x,v',s,hv,he=>by
  simp only[AV.view]at he;split at he
  ·rename_i cs' h'' hcs;simp only[fS,ad2]at he;obtain⟨rfl,rfl⟩:=he;obtain⟨vs,rfl,h1,h2,h3⟩:=gV hv;obtain⟨G',k1,k2,k3,k4⟩:=mX cs (xs:=λi=>vs.getD i undef) s h3 hcs;exact⟨G',k1,k2,.agg _ _ _ (by omega) (λi hi=>h2 i (by omega)) λi hi=>k4 i (by omega)⟩
  ·cases he
 |.tup cs,G,h,h',x,v',s,hv,he=>by
  simp only[AV.view]at he;split at he
  ·rename_i cs' h'' hcs;simp only[fS,ad2]at he;obtain⟨rfl,rfl⟩:=he;obtain⟨vs,rfl,h1,h3⟩:=wN hv;obtain⟨G',k1,k2,k3,k4⟩:=mX cs (xs:=λi=>vs.getD i undef) s h3 hcs;exact⟨G',k1,k2,.tup _ _ _ (by omega) λi hi=>k4 i (by omega)⟩
  ·cases he
 |.iface t v,G,h,h',x,v',s,hv,he=>by
  simp only[AV.view]at he;split at he
  ·rename_i u h'' hu;simp only[fS,ad2]at he;obtain⟨rfl,rfl⟩:=he;cases hv with
   |iface _ t v x hx=>
    obtain⟨G',k1,k2,k3⟩:=lI v s hx hu;exact⟨G',k1,k2,.iface _ _ _ _ k3⟩
  ·cases he
 |.top,G,h,h',x,v',s,hv,he=>by simp only[AV.view,fS,ad2]at he;obtain⟨rfl,rfl⟩:=he;exact⟨G,s,Goes.refl w G h,hv⟩
 |.bool _,G,h,h',x,v',s,hv,he=>by simp only[AV.view,fS,ad2]at he;obtain⟨rfl,rfl⟩:=he;exact⟨G,s,Goes.refl w G h,hv⟩
 |.int _ _,G,h,h',x,v',s,hv,he=>by simp only[AV.view,fS,ad2]at he;obtain⟨rfl,rfl⟩:=he;exact⟨G,s,Goes.refl w G h,hv⟩
 |.str _,G,h,h',x,v',s,hv,he=>by simp only[AV.view,fS,ad2]at he;obtain⟨rfl,rfl⟩:=he;exact⟨G,s,Goes.refl w G h,hv⟩
 |.aj,G,h,h',x,v',s,hv,he=>by simp only[AV.view,fS,ad2]at he;obtain⟨rfl,rfl⟩:=he;exact⟨G,s,Goes.refl w G h,hv⟩
 |.emp,G,h,h',x,v',s,hv,he=>by simp only[AV.view,fS,ad2]at he;obtain⟨rfl,rfl⟩:=he;exact⟨G,s,Goes.refl w G h,hv⟩
 |.lst _,G,h,h',x,v',s,hv,he=>by simp only[AV.view,fS,ad2]at he;obtain⟨rfl,rfl⟩:=he;exact⟨G,s,Goes.refl w G h,hv⟩
 |.ptr _ _,G,h,h',x,v',s,hv,he=>by simp only[AV.view,fS,ad2]at he;obtain⟨rfl,rfl⟩:=he;exact⟨G,s,Goes.refl w G h,hv⟩
 |.cM _ _ _ _ _,G,h,h',x,v',s,hv,he=>by simp only[AV.view,fS,ad2]at he;obtain⟨rfl,rfl⟩:=he;exact⟨G,s,Goes.refl w G h,hv⟩
 |.dH _ _,G,h,h',x,v',s,hv,he=>by simp only[AV.view,fS,ad2]at he;obtain⟨rfl,rfl⟩:=he;exact⟨G,s,Goes.refl w G h,hv⟩
 |.jL,G,h,h',x,v',s,hv,he=>by simp only[AV.view,fS,ad2]at he;obtain⟨rfl,rfl⟩:=he;exact⟨G,s,Goes.refl w G h,hv⟩
 |.fn _ _ _,G,h,h',x,v',s,hv,he=>by simp only[AV.view,fS,ad2]at he;obtain⟨rfl,rfl⟩:=he;exact⟨G,s,Goes.refl w G h,hv⟩
 |.gq,G,h,h',x,v',s,hv,he=>by simp only[AV.view,fS,ad2]at he;obtain⟨rfl,rfl⟩:=he;exact⟨G,s,Goes.refl w G h,hv⟩
 |.fH,G,h,h',x,v',s,hv,he=>by simp only[AV.view,fS,ad2]at he;obtain⟨rfl,rfl⟩:=he;exact⟨G,s,Goes.refl w G h,hv⟩
 |.mp _,G,h,h',x,v',s,hv,he=>by simp only[AV.view,fS,ad2]at he;obtain⟨rfl,rfl⟩:=he;exact⟨G,s,Goes.refl w G h,hv⟩
 |.fG,G,h,h',x,v',s,hv,he=>by simp only[AV.view,fS,ad2]at he;obtain⟨rfl,rfl⟩:=he;exact⟨G,s,Goes.refl w G h,hv⟩
 |.kO,G,h,h',x,v',s,hv,he=>by simp only[AV.view,fS,ad2]at he;obtain⟨rfl,rfl⟩:=he;exact⟨G,s,Goes.refl w G h,hv⟩
theorem mX{p:Loc->Bool}{w:World}:∀ (cs:List AV) {G:Gm} {h h':Heap} {xs:Nat->Value} {cs':List AV},Sim w G h->(∀ i,i<cs.length->az w G (dom h) (cs.getD i .top) (xs i)) ->
  AV.views p cs h=some (cs',h')->∃ G',Sim w G' h'∧Goes w G h w G' h'∧cs'.length=cs.length∧∀ i,i<cs.length->az w G' (dom h') (cs'.getD i .top) (xs i)
 | [],G,h,h',xs,cs',s,hv,he=>by
  simp only[AV.views,fS,ad2]at he;obtain⟨rfl,rfl⟩:=he;exact⟨G,s,Goes.refl w G h,rfl,λi hi=>by simp at hi⟩
 |c :: cs,G,h,h',xs,cs',s,hv,he=>by
  simp only[AV.views]at he;split at he
  ·rename_i c' h1 hc;split at he
   ·rename_i cs2 h2 hcs;simp only[fS,ad2]at he;obtain⟨rfl,rfl⟩:=he;obtain⟨G1,k1,k2,k3⟩:=lI c s (by simpa using hv 0 (by simp)) hc;obtain⟨G2,l1,l2,l3,l4⟩:=mX cs (xs:=λi=>xs (i+1)) k1 (λi hi=>(by simpa using hv (i+1) (by simpa using hi):az w G (dom h) (cs.getD i .top) (xs (i+1))).along k2) hcs;refine⟨G2,l1,k2.trans l2,by simp[l3],λi hi=>?_⟩;cases i with
    |zero=>simpa using k3.along l2
    |succ i=>simpa using l4 i (by simpa using hi)
   ·cases he
  ·cases he
end
end Go.Ab
