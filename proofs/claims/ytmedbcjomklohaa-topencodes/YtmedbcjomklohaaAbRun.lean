/-
  Owned slices that become slices that nobody writes; the remaining operations on memory.
-/
import Derived.Test.YtmedbcjomklohaaAbUns
import Derived.Laws.IdiomStrings
import Derived.MapKept
import Derived.WideKeyRuns
import Derived.WideLaws
set_option linter.unusedVariables false
set_option linter.unusedSimpArgs false
namespace Go.Ab
open Go.RowKit
variable {P:Program}
theorem view_own {w:World} {G:Gm} {h:Heap} (s:Sim w G h) {a:Loc} {n:Nat} {x:Value} (hv:VRel w G (dom h) (.own a n) x) {t:TypeId} {sz:Nat} {vw:Bool} {es:List AV}
  (hB:ASim w G a t sz vw es) (hn:es.length=n) :
  ∃ G',Sim w G' (hset h a (.arr t sz true es))∧Goes w G h w G' (hset h a (.arr t sz true es))∧VRel w G' (dom (hset h a (.arr t sz true es))) (.lst es) x:=by
 cases hv with
 | own _ a n m x hLa hm hle ho hx=>
  obtain ⟨h0,hd⟩:=hB
  have hmn:m=n:=by rw [hm] at h0;injection h0 with h0;omega
  have hxe:=hx hmn
  have hI:ImmKept w G w (G.still fun b o=>G.blk a=some b∧o < n * sz):=fun b o hi=>⟨.inl hi,rfl⟩
  have hgo:=Goes.update (w:=w) (w':=w) (G:=G) (G':=G.still fun b o=>G.blk a=some b∧o < n * sz) (B:=.arr t sz true es) hLa rfl rfl rfl (Nat.le_refl _) (fun _ _ _=>rfl) (fun _ _=>⟨rfl,rfl,rfl⟩) (.inl ⟨rfl,rfl,rfl⟩) hI (fun _ hk=>.inl hk) (fun _ _ hk=>hk.elim .inl fun hk=>.inr hk.1)
  refine ⟨G.still fun b o=>G.blk a=some b∧o < n * sz,s.update (G':=G.still fun b o=>G.blk a=some b∧o < n * sz) hLa (Nat.le_refl _) (fun _ _ _=>rfl) (fun _ _=>⟨rfl,rfl,rfl⟩) (.inl ⟨rfl,rfl,rfl⟩) hI (fun b o hi=>?_) (fun _ hk=>.inl hk) ?_,hgo,?_⟩
  ·rcases hi with hi | ⟨hi,_⟩
   ·exact .inl hi
   ·exact .inr ⟨hi,s.lt hLa hi⟩
  ·refine ⟨h0,?_⟩
   rcases hd with ⟨q1,q2⟩ | ⟨b,c,q1,q2,q3,q4,q5,q6,q7,q8⟩
   ·exact .inl ⟨q1,q2⟩
   ·refine .inr ⟨b,c,q1,q2,q3,q4,q5,q6,fun i hi=>⟨(q7 i hi).1,fun j hj=>⟨((q7 i hi).2 j hj).1,((q7 i hi).2 j hj).2.mono hI fun _ e=>e.elim⟩⟩,fun o hi=>⟨rfl,?_⟩⟩
    rcases hi with hi | ⟨_,hi⟩
    ·exact (q8 o hi).2
    ·rw [hn];exact hi
  ·rcases hd with ⟨q1,q2⟩ | ⟨b,c,q1,q2,q3,q4,q5,q6,q7,q8⟩
   ·subst q2
    have hxv:x=.slice none 0 0:=by rw [hxe];unfold ownVal;rw [q1]
    rw [hxv]
    exact .lst0 _ _ _
   ·have hxv:x=.slice (some ⟨b,0,none⟩) n (G.cap a):=by rw [hxe];unfold ownVal;rw [q1]
    rw [hxv]
    subst hn
    refine .lst _ es b 0 _ sz (fun i j=>c.getD (i * sz+j) undef) q5 (fun i hi=>(q7 i hi).1) (fun i j hi hj=>⟨?_,.inr ⟨q1,?_⟩,((q7 i hi).2 j hj).1⟩) fun i j hi hj=>((q7 i hi).2 j hj).2.mono hI fun _ e=>e.elim
    ·rw [Nat.zero_add]
     refine cells_get q2 ?_
     rw [q3]
     exact Nat.lt_of_lt_of_le (idx_lt hi hj) (Nat.mul_le_mul_right _ q5)
    ·rw [Nat.zero_add]
     exact idx_lt hi hj
theorem viewF1_ok {w:World} {v v':AV} {G:Gm} {h h':Heap} {x:Value} (s:Sim w G h) (hv:VRel w G (dom h) v x) (he:viewF1 v h=some (v',h')) :
  ∃ G',Sim w G' h'∧Goes w G h w G' h'∧VRel w G' NoLoc v' x∧v'.cells.length=v.cells.length∧v.isAgg=false∧v'.isAgg=false∧∀ a t s es,hget h a=some (.arv t s es)→hget h' a=some (.arv t s es):=by
 unfold viewF1 at he
 split at he
 ·rename_i b m
  split at he
  ·rename_i t sz vw es hb
   split at he
   ·rename_i hn
    simp only [Option.some.injEq,Prod.mk.injEq] at he
    obtain ⟨rfl,rfl⟩:=he
    obtain ⟨G',k1,k2,k3⟩:=view_own s hv (s.blk b _ hb) hn
    refine ⟨G',k1,k2,k3.goes (ImmKept.refl w G') (p:=fun _=>false) rfl (fun _ _ e=>by cases e),rfl,rfl,rfl,fun a t' s' es' ha=>?_⟩
    rw [hget_hset,if_neg]
    ·exact ha
    ·rintro ⟨rfl,_⟩
     rw [hb] at ha
     cases ha
   ·cases he
  ·cases he
 ·split at he
  ·rename_i c
   simp only [Option.some.injEq,Prod.mk.injEq] at he
   obtain ⟨rfl,rfl⟩:=he
   exact ⟨G,s,Goes.refl w G h,hv.goes (ImmKept.refl w G) (p:=fun _=>false) c.1 (fun _ _ e=>by cases e),rfl,c.2,c.2,fun _ _ _ _ ha=>ha⟩
  ·cases he
theorem one_cell {v:AV} (h:v.isAgg=false) (hc:v.cells.length=1):v.cells.getD 0 .top=v:=by
 cases v<;>simp_all [AV.isAgg,AV.cells]
theorem viewC_ok {w:World}:∀ (cs:List AV) {G:Gm} {h h':Heap} {xs:Nat→Value} {cs':List AV},Sim w G h→(∀ i,i < cs.length→VRel w G (dom h) (cs.getD i .top) (xs i))→viewC cs h=some (cs',h') →
  ∃ G',Sim w G' h'∧Goes w G h w G' h'∧cs'.length=cs.length∧(∀ i,i < cs.length→VRel w G' NoLoc (cs'.getD i .top) (xs i))∧∀ a t s es,hget h a=some (.arv t s es)→hget h' a=some (.arv t s es)
 | [],G,h,h',xs,cs',s,hv,he=>by
  simp only [viewC,Option.some.injEq,Prod.mk.injEq] at he
  obtain ⟨rfl,rfl⟩:=he
  exact ⟨G,s,Goes.refl w G h,rfl,fun i hi=>by simp at hi,fun _ _ _ _ ha=>ha⟩
 | c :: cs,G,h,h',xs,cs',s,hv,he=>by
  simp only [viewC] at he
  split at he
  ·rename_i c' h1 hc
   split at he
   ·rename_i cs2 h2 hcs
    simp only [Option.some.injEq,Prod.mk.injEq] at he
    obtain ⟨rfl,rfl⟩:=he
    obtain ⟨G1,k1,k2,k3,_,_,_,k7⟩:=viewF1_ok s (by simpa using hv 0 (by simp)) hc
    obtain ⟨G2,l1,l2,l3,l4,l5⟩:=viewC_ok cs (xs:=fun i=>xs (i+1)) k1 (fun i hi=>(by simpa using hv (i+1) (by simpa using hi):VRel w G (dom h) (cs.getD i .top) (xs (i+1))).along k2) hcs
    refine ⟨G2,l1,k2.trans l2,by simp [l3],fun i hi=>?_,fun a t s es ha=>l5 a t s es (k7 a t s es ha)⟩
    cases i with
    | zero=>simpa using k3.mono l2.imm fun _ e=>e.elim
    | succ i=>simpa using l4 i (by simpa using hi)
   ·cases he
  ·cases he
theorem viewE_ok {w:World} {v v':AV} {G:Gm} {h h':Heap} {xs:Nat→Value} (s:Sim w G h) (hv:∀ j,j < v.cells.length→VRel w G (dom h) (v.cells.getD j .top) (xs j)) (he:viewE v h=some (v',h')) :
  ∃ G',Sim w G' h'∧Goes w G h w G' h'∧v'.cells.length=v.cells.length∧(∀ j,j < v.cells.length→VRel w G' NoLoc (v'.cells.getD j .top) (xs j))∧∀ a t s es,hget h a=some (.arv t s es)→hget h' a=some (.arv t s es):=by
 unfold viewE at he
 split at he
 ·rename_i cs
  split at he
  ·rename_i cs' h1 hcs
   simp only [Option.some.injEq,Prod.mk.injEq] at he
   obtain ⟨rfl,rfl⟩:=he
   exact viewC_ok cs s hv hcs
  ·cases he
 ·by_cases h0:v.cells.length=1∧v.isAgg=false
  ·obtain ⟨G',k1,k2,k3,k4,_,k6,k7⟩:=viewF1_ok (x:=xs 0) s (by have:=hv 0 (by omega);rwa [one_cell h0.2 h0.1] at this) he
   refine ⟨G',k1,k2,k4,fun j hj=>?_,k7⟩
   have:j=0:=by omega
   subst this
   rw [one_cell k6 (by omega)]
   exact k3
  ·have hz:v.cells.length=0:=by
    cases v<;>simp_all [AV.isAgg,AV.cells]
   have:viewF1 v h=if v.pure=true∧v.isAgg=false then some (v,h) else none:=by
    cases v<;>simp_all [viewF1,AV.cells]
   rw [this] at he
   split at he
   ·simp only [Option.some.injEq,Prod.mk.injEq] at he
    obtain ⟨rfl,rfl⟩:=he
    exact ⟨G,s,Goes.refl w G h,rfl,fun j hj=>by omega,fun _ _ _ _ ha=>ha⟩
   ·cases he
theorem viewF_ok {w:World} {sz:Nat}:∀ (es:List AV) {G:Gm} {h h':Heap} {xs:Nat→Nat→Value} {es':List AV},Sim w G h→(∀ i,i < es.length→(es.getD i .top).cells.length=sz∧∀ j,j < sz→VRel w G (dom h) ((es.getD i .top).cells.getD j .top) (xs i j))→viewF es h=some (es',h') →
  ∃ G',Sim w G' h'∧Goes w G h w G' h'∧es'.length=es.length∧(∀ i,i < es.length→(es'.getD i .top).cells.length=sz∧∀ j,j < sz→VRel w G' NoLoc ((es'.getD i .top).cells.getD j .top) (xs i j))∧∀ a t s es,hget h a=some (.arv t s es)→hget h' a=some (.arv t s es)
 | [],G,h,h',xs,es',s,hv,he=>by
  simp only [viewF,Option.some.injEq,Prod.mk.injEq] at he
  obtain ⟨rfl,rfl⟩:=he
  exact ⟨G,s,Goes.refl w G h,rfl,fun i hi=>by simp at hi,fun _ _ _ _ ha=>ha⟩
 | c :: es,G,h,h',xs,es',s,hv,he=>by
  simp only [viewF] at he
  split at he
  ·rename_i c' h1 hc
   split at he
   ·rename_i es2 h2 hcs
    simp only [Option.some.injEq,Prod.mk.injEq] at he
    obtain ⟨rfl,rfl⟩:=he
    have hv0:=hv 0 (by simp)
    simp only [List.getD_cons_zero] at hv0
    obtain ⟨G1,k1,k2,k3,k4,k5⟩:=viewE_ok (xs:=xs 0) s (fun j hj=>hv0.2 j (by omega)) hc
    obtain ⟨G2,l1,l2,l3,l4,l5⟩:=viewF_ok es (xs:=fun i=>xs (i+1)) k1 (fun i hi=>by
     have:=hv (i+1) (by simpa using hi)
     simp only [List.getD_cons_succ] at this
     exact ⟨this.1,fun j hj=>(this.2 j hj).along k2⟩) hcs
    refine ⟨G2,l1,k2.trans l2,by simp [l3],fun i hi=>?_,fun a t s es ha=>l5 a t s es (k5 a t s es ha)⟩
    cases i with
    | zero=>
     simp only [List.getD_cons_zero]
     exact ⟨by omega,fun j hj=>(k4 j (by omega)).mono l2.imm fun _ e=>e.elim⟩
    | succ i=>
     simp only [List.getD_cons_succ]
     exact l4 i (by simpa using hi)
   ·cases he
  ·cases he
theorem view_arv {w:World} {G:Gm} {h:Heap} (s:Sim w G h) {a:Loc} {n:Nat} {x:Value} (hv:VRel w G (dom h) (.own a n) x) {t:TypeId} {sz:Nat} {es es':List AV} {h':Heap}
  (hb:hget h a=some (.arv t sz es)) (hn:es.length=n) (he:viewF es h=some (es',h')) :
  ∃ G',Sim w G' (hset h' a (.arr t sz true es'))∧Goes w G h w G' (hset h' a (.arr t sz true es'))∧VRel w G' (dom (hset h' a (.arr t sz true es'))) (.lst es') x:=by
 obtain ⟨h0,hd⟩:=s.blk a _ hb
 rcases hd with ⟨h1,h2⟩ | ⟨b,c,h1,h2,h3,h4,h5,h6,h7,h8⟩
 ·subst h2
  simp only [viewF,Option.some.injEq,Prod.mk.injEq] at he
  obtain ⟨rfl,rfl⟩:=he
  exact view_own (vw:=false) s hv ⟨h0,.inl ⟨h1,rfl⟩⟩ hn
 ·obtain ⟨G1,k1,k2,k3,k4,k5⟩:=viewF_ok es (xs:=fun i j=>c.getD (i * sz+j) undef) s (fun i hi=>⟨(h7 i hi).1,fun j hj=>((h7 i hi).2 j hj).2.wider fun _=>domTo_dom⟩) he
  have hb1:=k5 a t sz es hb
  obtain ⟨g0,gd⟩:=k1.blk a _ hb1
  have hag:G1.blk a=G.blk a∧G1.len a=G.len a∧G1.cap a=G.cap a:=by
   rcases (k2.loc a (dom_of hb)).2 with q | ⟨m,m',q1,q2,q3⟩
   ·exact q
   ·rw [h0] at q1
    rw [g0] at q2
    injection q1 with q1
    injection q2 with q2
    omega
  have hno:∀ o,¬ G1.imm b o:=by
   rcases gd with ⟨q1,_⟩ | ⟨b2,c2,q1,_,_,_,_,_,_,q8⟩
   ·rw [hag.1,h1] at q1;cases q1
   ·rw [hag.1,h1] at q1;injection q1 with q1;subst q1;exact q8
  have hA:ASim w G1 a t sz false es':=⟨by rw [hag.2.1,h0,k3],.inr ⟨b,c,hag.1.trans h1,h2,by rw [hag.2.2];exact h3,h4,by rw [hag.2.2,k3];exact h5,by rw [hag.2.2];exact h6,
   fun i hi=>⟨(k4 i (by omega)).1,fun j hj=>⟨((h7 i (by omega)).2 j hj).1,(k4 i (by omega)).2 j hj⟩⟩,fun o ho=>absurd ho (hno o)⟩⟩
  obtain ⟨G2,l1,l2,l3⟩:=view_own k1 (hv.along k2) hA (by omega)
  exact ⟨G2,l1,k2.trans l2,l3⟩
mutual
theorem view_ok {p:Loc→Bool} {w:World}:∀ (v:AV) {G:Gm} {h h':Heap} {x:Value} {v':AV},Sim w G h→VRel w G (dom h) v x→v.view p h=some (v',h') →
  ∃ G',Sim w G' h'∧Goes w G h w G' h'∧VRel w G' (dom h') v' x
 | .own a n,G,h,h',x,v',s,hv,he=>by
  simp only [AV.view] at he
  split at he
  ·split at he
   ·rename_i t sz vw es hb
    split at he
    ·rename_i hn
     simp only [Option.some.injEq,Prod.mk.injEq] at he
     obtain ⟨rfl,rfl⟩:=he
     exact view_own s hv (s.blk a _ hb) hn
    ·cases he
   ·rename_i t sz k ti si out es hb
    split at he
    ·rename_i hn
     simp only [Option.some.injEq,Prod.mk.injEq] at he
     obtain ⟨rfl,rfl⟩:=he
     exact view_own s hv (s.blk a _ hb).1 hn
    ·cases he
   ·rename_i t sz es hb
    split at he
    ·rename_i hn
     split at he
     ·rename_i es' h1 hf
      simp only [Option.some.injEq,Prod.mk.injEq] at he
      obtain ⟨rfl,rfl⟩:=he
      exact view_arv s hv hb hn hf
     ·cases he
    ·cases he
   ·cases he
  ·simp only [Option.some.injEq,Prod.mk.injEq] at he
   obtain ⟨rfl,rfl⟩:=he
   exact ⟨G,s,Goes.refl w G h,hv⟩
 | .agg cs,G,h,h',x,v',s,hv,he=>by
  simp only [AV.view] at he
  split at he
  ·rename_i cs' h'' hcs
   simp only [Option.some.injEq,Prod.mk.injEq] at he
   obtain ⟨rfl,rfl⟩:=he
   obtain ⟨vs,rfl,h1,h2,h3⟩:=agg_shape hv
   obtain ⟨G',k1,k2,k3,k4⟩:=views_ok cs (xs:=fun i=>vs.getD i undef) s h3 hcs
   exact ⟨G',k1,k2,.agg _ _ _ (by omega) (fun i hi=>h2 i (by omega)) fun i hi=>k4 i (by omega)⟩
  ·cases he
 | .tup cs,G,h,h',x,v',s,hv,he=>by
  simp only [AV.view] at he
  split at he
  ·rename_i cs' h'' hcs
   simp only [Option.some.injEq,Prod.mk.injEq] at he
   obtain ⟨rfl,rfl⟩:=he
   obtain ⟨vs,rfl,h1,h3⟩:=tup_shape hv
   obtain ⟨G',k1,k2,k3,k4⟩:=views_ok cs (xs:=fun i=>vs.getD i undef) s h3 hcs
   exact ⟨G',k1,k2,.tup _ _ _ (by omega) fun i hi=>k4 i (by omega)⟩
  ·cases he
 | .iface t v,G,h,h',x,v',s,hv,he=>by
  simp only [AV.view] at he
  split at he
  ·rename_i u h'' hu
   simp only [Option.some.injEq,Prod.mk.injEq] at he
   obtain ⟨rfl,rfl⟩:=he
   cases hv with
   | iface _ t v x hx=>
    obtain ⟨G',k1,k2,k3⟩:=view_ok v s hx hu
    exact ⟨G',k1,k2,.iface _ _ _ _ k3⟩
  ·cases he
 | .top,G,h,h',x,v',s,hv,he=>by simp only [AV.view,Option.some.injEq,Prod.mk.injEq] at he;obtain ⟨rfl,rfl⟩:=he;exact ⟨G,s,Goes.refl w G h,hv⟩
 | .bool _,G,h,h',x,v',s,hv,he=>by simp only [AV.view,Option.some.injEq,Prod.mk.injEq] at he;obtain ⟨rfl,rfl⟩:=he;exact ⟨G,s,Goes.refl w G h,hv⟩
 | .int _ _,G,h,h',x,v',s,hv,he=>by simp only [AV.view,Option.some.injEq,Prod.mk.injEq] at he;obtain ⟨rfl,rfl⟩:=he;exact ⟨G,s,Goes.refl w G h,hv⟩
 | .str _,G,h,h',x,v',s,hv,he=>by simp only [AV.view,Option.some.injEq,Prod.mk.injEq] at he;obtain ⟨rfl,rfl⟩:=he;exact ⟨G,s,Goes.refl w G h,hv⟩
 | .nils,G,h,h',x,v',s,hv,he=>by simp only [AV.view,Option.some.injEq,Prod.mk.injEq] at he;obtain ⟨rfl,rfl⟩:=he;exact ⟨G,s,Goes.refl w G h,hv⟩
 | .emp,G,h,h',x,v',s,hv,he=>by simp only [AV.view,Option.some.injEq,Prod.mk.injEq] at he;obtain ⟨rfl,rfl⟩:=he;exact ⟨G,s,Goes.refl w G h,hv⟩
 | .lst _,G,h,h',x,v',s,hv,he=>by simp only [AV.view,Option.some.injEq,Prod.mk.injEq] at he;obtain ⟨rfl,rfl⟩:=he;exact ⟨G,s,Goes.refl w G h,hv⟩
 | .ptr _ _,G,h,h',x,v',s,hv,he=>by simp only [AV.view,Option.some.injEq,Prod.mk.injEq] at he;obtain ⟨rfl,rfl⟩:=he;exact ⟨G,s,Goes.refl w G h,hv⟩
 | .eptr _ _ _ _ _,G,h,h',x,v',s,hv,he=>by simp only [AV.view,Option.some.injEq,Prod.mk.injEq] at he;obtain ⟨rfl,rfl⟩:=he;exact ⟨G,s,Goes.refl w G h,hv⟩
 | .iptr _ _,G,h,h',x,v',s,hv,he=>by simp only [AV.view,Option.some.injEq,Prod.mk.injEq] at he;obtain ⟨rfl,rfl⟩:=he;exact ⟨G,s,Goes.refl w G h,hv⟩
 | .nilp,G,h,h',x,v',s,hv,he=>by simp only [AV.view,Option.some.injEq,Prod.mk.injEq] at he;obtain ⟨rfl,rfl⟩:=he;exact ⟨G,s,Goes.refl w G h,hv⟩
 | .fn _ _ _,G,h,h',x,v',s,hv,he=>by simp only [AV.view,Option.some.injEq,Prod.mk.injEq] at he;obtain ⟨rfl,rfl⟩:=he;exact ⟨G,s,Goes.refl w G h,hv⟩
 | .nilf,G,h,h',x,v',s,hv,he=>by simp only [AV.view,Option.some.injEq,Prod.mk.injEq] at he;obtain ⟨rfl,rfl⟩:=he;exact ⟨G,s,Goes.refl w G h,hv⟩
 | .nili,G,h,h',x,v',s,hv,he=>by simp only [AV.view,Option.some.injEq,Prod.mk.injEq] at he;obtain ⟨rfl,rfl⟩:=he;exact ⟨G,s,Goes.refl w G h,hv⟩
 | .mp _,G,h,h',x,v',s,hv,he=>by simp only [AV.view,Option.some.injEq,Prod.mk.injEq] at he;obtain ⟨rfl,rfl⟩:=he;exact ⟨G,s,Goes.refl w G h,hv⟩
 | .nilm,G,h,h',x,v',s,hv,he=>by simp only [AV.view,Option.some.injEq,Prod.mk.injEq] at he;obtain ⟨rfl,rfl⟩:=he;exact ⟨G,s,Goes.refl w G h,hv⟩
 | .anyp,G,h,h',x,v',s,hv,he=>by simp only [AV.view,Option.some.injEq,Prod.mk.injEq] at he;obtain ⟨rfl,rfl⟩:=he;exact ⟨G,s,Goes.refl w G h,hv⟩
theorem views_ok {p:Loc→Bool} {w:World}:∀ (cs:List AV) {G:Gm} {h h':Heap} {xs:Nat→Value} {cs':List AV},Sim w G h→(∀ i,i < cs.length→VRel w G (dom h) (cs.getD i .top) (xs i)) →
  AV.views p cs h=some (cs',h')→∃ G',Sim w G' h'∧Goes w G h w G' h'∧cs'.length=cs.length∧∀ i,i < cs.length→VRel w G' (dom h') (cs'.getD i .top) (xs i)
 | [],G,h,h',xs,cs',s,hv,he=>by
  simp only [AV.views,Option.some.injEq,Prod.mk.injEq] at he
  obtain ⟨rfl,rfl⟩:=he
  exact ⟨G,s,Goes.refl w G h,rfl,fun i hi=>by simp at hi⟩
 | c :: cs,G,h,h',xs,cs',s,hv,he=>by
  simp only [AV.views] at he
  split at he
  ·rename_i c' h1 hc
   split at he
   ·rename_i cs2 h2 hcs
    simp only [Option.some.injEq,Prod.mk.injEq] at he
    obtain ⟨rfl,rfl⟩:=he
    obtain ⟨G1,k1,k2,k3⟩:=view_ok c s (by simpa using hv 0 (by simp)) hc
    obtain ⟨G2,l1,l2,l3,l4⟩:=views_ok cs (xs:=fun i=>xs (i+1)) k1 (fun i hi=>(by simpa using hv (i+1) (by simpa using hi):VRel w G (dom h) (cs.getD i .top) (xs (i+1))).along k2) hcs
    refine ⟨G2,l1,k2.trans l2,by simp [l3],fun i hi=>?_⟩
    cases i with
    | zero=>simpa using k3.along l2
    | succ i=>simpa using l4 i (by simpa using hi)
   ·cases he
  ·cases he
end
end Go.Ab
/-
  The operations on memory, one by one.
-/
namespace Go.Ab
open Go.RowKit
variable {P:Program} {w:World} {G:Gm} {h:Heap}
theorem matL_ok:∀ (cs:List AV) {w:World} {G:Gm} {h:Heap} {xs:Nat→Value},Sim w G h→h≠[]→(∀ i,i < cs.length→VRel w G (dom h) (cs.getD i .top) (xs i)) →
  ∃ G',Sim w G' (matL cs h).2∧Goes w G h w G' (matL cs h).2∧(matL cs h).1.length=cs.length∧∀ i,i < cs.length→VRel w G' (dom (matL cs h).2) ((matL cs h).1.getD i .top) (xs i)
 | [],w,G,h,xs,s,hn,hv=>⟨G,s,Goes.refl w G h,rfl,fun i hi=>by simp at hi⟩
 | c :: cs,w,G,h,xs,s,hn,hv=>by
  have hrest:∀ {G':Gm} {h':Heap},Goes w G h w G' h'→∀ i,i < cs.length→VRel w G' (dom h') (cs.getD i .top) (xs (i+1)):=fun g i hi=>
   (by simpa using hv (i+1) (by simpa using hi):VRel w G (dom h) (cs.getD i .top) (xs (i+1))).along g
  have h0:VRel w G (dom h) c (xs 0):=by simpa using hv 0 (by simp)
  have plain:(∀ r,matL (c :: cs) h=r→r=(c :: (matL cs h).1,(matL cs h).2))→∃ G',Sim w G' (matL (c :: cs) h).2∧Goes w G h w G' (matL (c :: cs) h).2∧(matL (c :: cs) h).1.length=(c :: cs).length ∧
    ∀ i,i < (c :: cs).length→VRel w G' (dom (matL (c :: cs) h).2) ((matL (c :: cs) h).1.getD i .top) (xs i):=fun e=>by
   rw [e _ rfl]
   obtain ⟨G',k1,k2,k3,k4⟩:=matL_ok cs (xs:=fun i=>xs (i+1)) s hn (hrest (Goes.refl w G h))
   refine ⟨G',k1,k2,by simp [k3],fun i hi=>?_⟩
   cases i with
   | zero=>simpa using h0.along k2
   | succ i=>simpa using k4 i (by simpa using hi)
  cases c with
  | nils=>
   have hx:xs 0=.slice none 0 0:=by
    generalize xs 0=q at h0
    cases h0;rfl
   have hb:∀ k,k < w.heap.size→w.heap[k]?=w.heap[k]?:=fun _ _=>rfl
   have g1:=Goes.new (w':=w) (B:=.arr 0 0 false []) (b:=none) (n:=some 0) (c:=0) s hn rfl rfl rfl (Nat.le_refl _) hb (fun k hk=>by cases hk)
   have s1:Sim w (G.at_ (hnext h) none (some 0) 0) (hnew h (.arr 0 0 false [])):=s.new hn (Nat.le_refl _) hb (fun k hk=>by cases hk) ⟨by simp [Gm.at_],.inl ⟨by simp [Gm.at_],rfl⟩⟩
   obtain ⟨G',k1,k2,k3,k4⟩:=matL_ok cs (xs:=fun i=>xs (i+1)) s1 (by intro e;have:=hnew_length h (.arr 0 0 false []);rw [e] at this;cases h<;>simp_all) (hrest g1)
   refine ⟨G',k1,g1.trans k2,by simp [matL,k3],fun i hi=>?_⟩
   cases i with
   | zero=>
    have:VRel w (G.at_ (hnext h) none (some 0) 0) (dom (hnew h (.arr 0 0 false []))) (.own (hnext h) 0) (xs 0):=by
     rw [hx]
     exact .own _ _ _ 0 _ ((dom_hnew hn _ _).2 (.inl rfl)) (by simp [Gm.at_]) (Nat.le_refl _) (.inl ⟨rfl,rfl⟩) fun _=>by simp [ownVal,Gm.at_]
    simpa [matL] using this.along k2
   | succ i=>simpa [matL] using k4 i (by simpa using hi)
  | _=>exact plain fun r hr=>by rw [←hr];simp [matL]
theorem matV_ok (s:Sim w G h) (hn:h≠[]) {v:AV} {x:Value} (hv:VRel w G (dom h) v x) :
  ∃ G',Sim w G' (matV v h).2∧Goes w G h w G' (matV v h).2∧(matV v h).1.cells.length=v.cells.length∧VRel w G' (dom (matV v h).2) (matV v h).1 x:=by
 cases v with
 | agg cs=>
  obtain ⟨vs,rfl,h1,h2,h3⟩:=agg_shape hv
  obtain ⟨G',k1,k2,k3,k4⟩:=matL_ok cs (xs:=fun i=>vs.getD i undef) s hn h3
  exact ⟨G',k1,k2,by simpa [matV,AV.cells] using k3,by simpa [matV] using VRel.agg _ _ _ (by omega) (fun i hi=>h2 i (by omega)) fun i hi=>k4 i (by omega)⟩
 | nils=>
  obtain ⟨G',k1,k2,k3,k4⟩:=matL_ok [.nils] (xs:=fun _=>x) s hn (fun i hi=>by
   simp only [List.length_singleton,Nat.lt_one_iff] at hi
   subst hi
   exact hv)
  refine ⟨G',by simpa [matV,matL] using k1,by simpa [matV,matL] using k2,by simp [matV,AV.cells],?_⟩
  simpa [matV,matL] using k4 0 (by simp)
 | _=>exact ⟨G,s,Goes.refl w G h,rfl,hv⟩
theorem mat1_ok (k:Nat) (s:Sim w G h) (hn:h≠[]) {v:AV} {x:Value} (hv:VRel w G (dom h) v x) :
  ∃ G',Sim w G' (mat1 k v h).2∧Goes w G h w G' (mat1 k v h).2∧(mat1 k v h).1.cells.length=v.cells.length∧VRel w G' (dom (mat1 k v h).2) (mat1 k v h).1 x:=by
 unfold mat1
 split
 ·rename_i cs
  split
  ·rename_i hk
   obtain ⟨vs,rfl,h1,h2,h3⟩:=agg_shape hv
   have hlt:k < cs.length:=(List.getElem?_eq_some_iff.1 hk).1
   have hx:vs.getD k undef=.slice none 0 0:=by
    have q:=h3 k hlt
    rw [show cs.getD k .top=.nils by simp [List.getD_eq_getElem?_getD,hk]] at q
    generalize vs.getD k undef=y at q
    cases q;rfl
   have hb:∀ k,k < w.heap.size→w.heap[k]?=w.heap[k]?:=fun _ _=>rfl
   have g1:=Goes.new (w':=w) (B:=.arr 0 0 false []) (b:=none) (n:=some 0) (c:=0) s hn rfl rfl rfl (Nat.le_refl _) hb (fun k hk=>by cases hk)
   have s1:Sim w (G.at_ (hnext h) none (some 0) 0) (hnew h (.arr 0 0 false [])):=s.new hn (Nat.le_refl _) hb (fun k hk=>by cases hk) ⟨by simp [Gm.at_],.inl ⟨by simp [Gm.at_],rfl⟩⟩
   refine ⟨_,s1,g1,by simp [AV.cells],.agg _ _ _ (by simp;omega) (fun i hi=>h2 i (by simpa using hi)) fun i hi=>?_⟩
   simp only [List.length_set] at hi
   by_cases hik:k=i
   ·subst hik
    rw [show (cs.set k (.own (hnext h) 0)).getD k .top=.own (hnext h) 0 by simp [List.getD_eq_getElem?_getD,hlt],hx]
    exact .own _ _ _ 0 _ ((dom_hnew hn _ _).2 (.inl rfl)) (by simp [Gm.at_]) (Nat.le_refl _) (.inl ⟨rfl,rfl⟩) fun _=>by simp [ownVal,Gm.at_]
   ·rw [show (cs.set k (.own (hnext h) 0)).getD i .top=cs.getD i .top by simp [List.getD_eq_getElem?_getD,List.getElem?_set,hik]]
    exact (h3 i hi).along g1
  ·exact ⟨G,s,Goes.refl w G h,rfl,hv⟩
 ·exact ⟨G,s,Goes.refl w G h,rfl,hv⟩
theorem matKs_ok:∀ (n k:Nat) {w:World} {G:Gm} {h:Heap},Sim w G h→h≠[]→∀ {v:AV} {x:Value},VRel w G (dom h) v x →
  ∃ G',Sim w G' (matKs n k v h).2∧Goes w G h w G' (matKs n k v h).2∧(matKs n k v h).1.cells.length=v.cells.length∧VRel w G' (dom (matKs n k v h).2) (matKs n k v h).1 x
 | 0,k,w,G,h,s,hn,v,x,hv=>mat1_ok k s hn hv
 | n+1,k,w,G,h,s,hn,v,x,hv=>by
  simp only [matKs]
  split
  ·exact mat1_ok k s hn hv
  ·obtain ⟨G1,a1,a2,a3,a4⟩:=mat1_ok (k % 100) s hn hv
   have hne:(mat1 (k % 100) v h).2≠[]:=fun e0=>by
    have:=a2.depth
    rw [e0] at this
    cases h<;>simp_all
   obtain ⟨G2,b1,b2,b3,b4⟩:=matKs_ok n (k / 100) a1 hne a4
   exact ⟨G2,b1,a2.trans b2,b3.trans a3,b4⟩
theorem matK_ok (k:Nat) (s:Sim w G h) (hn:h≠[]) {v:AV} {x:Value} (hv:VRel w G (dom h) v x) :
  ∃ G',Sim w G' (matK k v h).2∧Goes w G h w G' (matK k v h).2∧(matK k v h).1.cells.length=v.cells.length∧VRel w G' (dom (matK k v h).2) (matK k v h).1 x:=matKs_ok 8 k s hn hv
theorem m_mat (s:Sim w G h) (hn:h≠[]) {e:Env} {a:Act} (he:EnvRel w G (dom h) e a) {o:Oper} {x:Operand} {y:Opd} (ho:o.op=.assign x) (hx:cOpd x=some y) :
  MemOk P w G h a o (matV (y.ev e) h).1 (matV (y.ev e) h).2:=by
 obtain ⟨G',k1,k2,_,k4⟩:=matV_ok s hn (opd_rel he hx)
 exact ⟨.value (a.eval x),a.eval x,w,G',by simp [execOp,ho],.inl rfl,k1,k2,k4⟩
theorem m_boxK (s:Sim w G h) (hn:h≠[]) {e:Env} {a:Act} (he:EnvRel w G (dom h) e a) {o:Oper} {t:TypeId} {x:Operand} {y:Opd} (ho:o.op=.box t x) (hx:cOpd x=some y) (k:Nat)
  (hpos:0 < (y.ev e).cells.length):MemOk P w G h a o (.ptr (hnext (matK k (y.ev e) h).2) 0) (hnew (matK k (y.ev e) h).2 (.box t false (matK k (y.ev e) h).1)):=by
 obtain ⟨G',k1,k2,k3,k4⟩:=matK_ok k s hn (opd_rel he hx)
 have hne:(matK k (y.ev e) h).2≠[]:=fun e0=>by
  have:=k2.depth
  rw [e0] at this
  cases h<;>simp_all
 obtain ⟨l1,l2,l3⟩:=new_box k1 hne (k4.cellsRel (by omega)) t
 refine ⟨_,_,_,_,?_,.inl rfl,l1,k2.trans l2,l3⟩
 simp [execOp,ho,Instr.box,newVar,newRow]
theorem m_allocM (s:Sim w G h) (hn:h≠[]) {a:Act} {o:Oper} {t:TypeId} {z:AV} (ho:o.op=.alloc t) (hz:zeroOf P t=some z) (hpos:0 < z.cells.length) :
  MemOk P w G h a o (.ptr (hnext (matV z h).2) 0) (hnew (matV z h).2 (.box t false (matV z h).1)):=by
 obtain ⟨i,zv,hi,hzv,hzz,hzl⟩:=zero_parts hz
 have hzr:VRel w G (dom h) z zv:=by rw [hzz];exact vrel_ofV zv
 obtain ⟨G',k1,k2,k3,k4⟩:=matV_ok s hn hzr
 have hne:(matV z h).2≠[]:=fun e0=>by
  have:=k2.depth
  rw [e0] at this
  cases h<;>simp_all
 obtain ⟨l1,l2,l3⟩:=new_box k1 hne (k4.cellsRel (by omega)) t
 refine ⟨_,_,_,_,?_,.inl rfl,l1,k2.trans l2,l3⟩
 simp [execOp,ho,Instr.alloc,zeroValue,typeInfo,hi,hzv,newVar,newRow]
theorem ofV_nil {zv:Value} (h:AV.agg []=ofV zv):zv=.agg #[]:=by
 cases zv with
 | agg cs=>
  simp only [ofV] at h
  split at h
  ·injection h with h
   have:cs.toList=[]:=by
    cases hc:cs.toList with
    | nil=>rfl
    | cons a r=>rw [hc] at h;simp at h
   have:cs=#[]:=by simpa using this
   rw [this]
  ·cases h
 | pointer a=>cases a<;>simp [ofV,ofV1] at h
 | slice a l c=>
  simp only [ofV,ofV1] at h
  repeat' split at h
  all_goals cases h
 | map b=>cases b<;>simp [ofV,ofV1] at h
 | _=>simp [ofV,ofV1] at h
theorem m_al0 (s:Sim w G h) (hn:h≠[]) {a:Act} {o:Oper} {t:TypeId} (ho:o.op=.alloc t) (hz:zeroOf P t=some (.agg [])) :
  MemOk P w G h a o (.ptr (hnext h) 0) (hnew h (.box t false (.agg []))):=by
 obtain ⟨i,zv,hi,hzv,hzz,hzl⟩:=zero_parts hz
 have hzv2:=ofV_nil hzz
 subst hzv2
 obtain ⟨l1,l2,l3⟩:=new_box (v:=.agg []) (c:=#[]) s hn ⟨rfl,fun i hi=>absurd hi (Nat.not_lt_zero _)⟩ t
 refine ⟨_,_,_,_,?_,.inl rfl,l1,l2,l3⟩
 simp [execOp,ho,Instr.alloc,zeroValue,typeInfo,hi,hzv,newVar,newRow,Value.cells]
theorem m_st0 (s:Sim w G h) {e:Env} {a:Act} (he:EnvRel w G (dom h) e a) {o:Oper} {t:TypeId} {A X:Operand} {A' X':Opd} {ag:Bool} (ho:o.op=.store t A X)
  (hA:cOpd A=some A') (hX:cOpd X=some X') (hsh:shapeOf P t=some (ag,0)) {K:Cfg} {O:Orc} {v:AV} {h':Heap}
  (hev:evM K O (.st0 A' X') e h=some (.val v h')):MemOk P w G h a o v h':=by
 have hrX:=opd_rel he hX
 have hrA:=opd_rel he hA
 have hS:=run_sizeOf hsh w
 simp only [evM] at hev
 split at hev
 ·rename_i la oo h1 h2
  simp only [Option.some.injEq,Out.val.injEq] at hev
  obtain ⟨rfl,rfl⟩:=hev
  rw [h1] at hrA
  rw [h2] at hrX
  obtain ⟨b,q1,_,_,q2⟩:=ptr_shape hrA
  generalize hg:a.eval X=xv at hrX
  cases hrX with
  | agg L cs vs hl ho' hh=>
   have hv0:vs=#[]:=by
    have:vs.size=0:=by simpa using hl
    exact Array.eq_empty_of_size_eq_zero this
   subst hv0
   refine ⟨.skip,undef,w,G,?_,.inr ⟨rfl,rfl⟩,s,Goes.refl w G h,.tup _ _ _ rfl fun i hi=>by simp at hi⟩
   simp [execOp,ho,q2,hg,Instr.storeAt,Instr.sureAddr,storeVar,hS,Value.cells,storeCells]
 ·cases hev
theorem m_load (s:Sim w G h) {e:Env} {a:Act} (he:EnvRel w G (dom h) e a) {o:Oper} {t:TypeId} {x:Operand} {y:Opd} {ag:Bool} {sz:Nat} (ho:o.op=.load t x) (hx:cOpd x=some y)
  (hsh:shapeOf P t=some (ag,sz)) (hsz:0 < sz) {v:AV} (hv:loadFrom ag sz h (y.ev e)=some v):MemOk P w G h a o v h:=by
 obtain ⟨r,k1,k2⟩:=loadFrom_ok s (opd_rel he hx) hsh hsz hv
 exact ⟨.value r,r,w,G,by simp [execOp,ho,k1],.inl rfl,s,Goes.refl w G h,k2⟩
theorem views_len {p:Loc→Bool}:∀ (cs:List AV) {h h':Heap} {cs':List AV},AV.views p cs h=some (cs',h')→cs'.length=cs.length
 | [],h,h',cs',e=>by
  simp only [AV.views,Option.some.injEq,Prod.mk.injEq] at e
  rw [←e.1]
 | c :: cs,h,h',cs',e=>by
  simp only [AV.views] at e
  split at e
  ·split at e
   ·rename_i h2
    simp only [Option.some.injEq,Prod.mk.injEq] at e
    rw [←e.1,List.length_cons,List.length_cons,views_len cs h2]
   ·cases e
  ·cases e
theorem view_cells {p:Loc→Bool} (v:AV) (h:Heap) {h':Heap} {v':AV} (e:v.view p h=some (v',h')):v'.cells.length=v.cells.length:=by
 cases v<;>simp only [AV.view] at e
 case own a n=>
  split at e
  ·split at e
   ·split at e
    ·simp only [Option.some.injEq,Prod.mk.injEq] at e
     rw [←e.1];rfl
    ·cases e
   ·split at e
    ·simp only [Option.some.injEq,Prod.mk.injEq] at e
     rw [←e.1];rfl
    ·cases e
   ·split at e
    ·split at e
     ·simp only [Option.some.injEq,Prod.mk.injEq] at e
      rw [←e.1];rfl
     ·cases e
    ·cases e
   ·cases e
  ·simp only [Option.some.injEq,Prod.mk.injEq] at e
   rw [←e.1]
 case agg cs=>
  split at e
  ·rename_i h2
   simp only [Option.some.injEq,Prod.mk.injEq] at e
   rw [←e.1]
   exact views_len cs h2
  ·cases e
 case tup cs=>
  split at e
  ·simp only [Option.some.injEq,Prod.mk.injEq] at e
   rw [←e.1];rfl
  ·cases e
 case iface t v=>
  split at e
  ·simp only [Option.some.injEq,Prod.mk.injEq] at e
   rw [←e.1];rfl
  ·cases e
 all_goals
  simp only [Option.some.injEq,Prod.mk.injEq] at e
  rw [←e.1]
theorem m_store (s:Sim w G h) (hn:h≠[]) {e:Env} {a:Act} (he:EnvRel w G (dom h) e a) {o:Oper} {t:TypeId} {A X:Operand} {A' X':Opd} {ag:Bool} {sz:Nat} {mat:Bool} (ho:o.op=.store t A X)
  (hA:cOpd A=some A') (hX:cOpd X=some X') (hsh:shapeOf P t=some (ag,sz)) (hsz:0 < sz) {K:Cfg} {O:Orc} {v:AV} {h':Heap}
  (hev:evM K O (.store sz mat A' X') e h=some (.val v h')):MemOk P w G h a o v h':=by
 have hrX:=opd_rel he hX
 have hrA:=opd_rel he hA
 simp only [evM] at hev
 split at hev
 ·rename_i hl
  have hm:∃ G',Sim w G' (if mat then matV (X'.ev e) h else (X'.ev e,h)).2∧Goes w G h w G' (if mat then matV (X'.ev e) h else (X'.ev e,h)).2 ∧
    (if mat then matV (X'.ev e) h else (X'.ev e,h)).1.cells.length=sz∧VRel w G' (dom (if mat then matV (X'.ev e) h else (X'.ev e,h)).2) (if mat then matV (X'.ev e) h else (X'.ev e,h)).1 (a.eval X):=by
   cases mat with
   | true=>
    obtain ⟨G',k1,k2,k3,k4⟩:=matV_ok s hn hrX
    exact ⟨G',k1,k2,k3.trans hl,k4⟩
   | false=>exact ⟨G,s,Goes.refl w G h,hl,hrX⟩
  generalize (if mat then matV (X'.ev e) h else (X'.ev e,h))=r at hev hm
  obtain ⟨u,h1⟩:=r
  obtain ⟨G',k1,k2,k3,k4⟩:=hm
  simp only at hev k1 k2 k3 k4
  have hvw:∀ u' h1',(if isE (A'.ev e)=true then u.view (fun _=>true) h1 else some (u,h1))=some (u',h1')→∃ G'',Sim w G'' h1'∧Goes w G h w G'' h1'∧u'.cells.length=sz∧VRel w G'' (dom h1') u' (a.eval X):=fun u' h1' hu=>by
   split at hu
   ·obtain ⟨G'',q1,q2,q3⟩:=view_ok u k1 k4 hu
    exact ⟨G'',q1,k2.trans q2,(view_cells u h1 hu).trans k3,q3⟩
   ·simp only [Option.some.injEq,Prod.mk.injEq] at hu
    obtain ⟨rfl,rfl⟩:=hu
    exact ⟨G',k1,k2,k3,k4⟩
  generalize (if isE (A'.ev e)=true then u.view (fun _=>true) h1 else some (u,h1))=rr at hev hvw
  split at hev
  ·rename_i u' h1'
   obtain ⟨G'',k1,k2,k3,k4⟩:=hvw u' h1' rfl
   split at hev
   ·rename_i h2 hst
    injection hev with hev
    injection hev with e1 e2
    subst e1;subst e2
    obtain ⟨w',l1,l2,l3⟩:=storeTo_ok (P:=P) (t:=t) (ag:=ag) k1 (hrA.along k2) k4 (by omega) (by rw [k3];exact hsh) hst
    exact ⟨.skip,undef,w',G'',by simp [execOp,ho,l1],.inr ⟨rfl,rfl⟩,l2,k2.trans l3,.tup _ _ _ rfl fun i hi=>by simp at hi⟩
   ·cases hev
  ·cases hev
 ·cases hev
theorem imm_row {w':World} (s:Sim w G h) (h1:w'.os=w.os) (h2:w'.tape=w.tape) (h3:w'.output=w.output) {g:Nat} (hg:w.heap.size≤g) (hg':g < w'.heap.size) (hs:w.heap.size≤w'.heap.size)
  (hb:∀ k,k < w.heap.size→w'.heap[k]?=w.heap[k]?) {es:List AV} {sz:Nat} {flat:List Value} (hf:Flat w G sz es flat) (hc:∀ j u,flat[j]?=some u→w'.cell? ⟨g,j,none⟩=some u) {cap:Nat} (hcap:es.length≤cap) :
  ∃ G',Sim w' G' h∧Goes w G h w' G' h∧∀ L,VRel w' G' L (.lst es) (.slice (some ⟨g,0,none⟩) es.length cap):=by
 have s1:=s.world hs hb
 have s2:=s1.still (q:=fun b o=>b=g) (fun b o hq=>by
  subst hq
  refine ⟨hg',fun e=>?_⟩
  have:=s.held e
  omega)
 have g1:=Goes.world s h1 h2 h3 hs hb
 have g2:=g1.still (q:=fun b o=>b=g) (fun b o hq=>by subst hq;exact hg)
 have hI:=g2.imm
 refine ⟨_,s2,g2,fun L=>?_⟩
 refine .lst _ es g 0 cap sz (fun i j=>flat.getD (i * sz+j) undef) hcap (fun i hi=>hf.sized i hi) (fun i j hi hj=>?_) fun i j hi hj=>(hf.rel i j hi hj).mono hI fun _ e=>e.elim
 have hlt:i * sz+j < flat.length:=by rw [hf.len];exact idx_lt hi hj
 have e1:flat[i * sz+j]?=some (flat.getD (i * sz+j) undef):=by simp [List.getD_eq_getElem?_getD,hlt]
 refine ⟨?_,.inr rfl,hf.one _ ?_⟩
 ·rw [Nat.zero_add];exact hc _ _ e1
 ·exact List.mem_of_getElem? e1
theorem m_pan {e:Env} {a:Act} (he:EnvRel w G (dom h) e a) {o:Oper} {x:Operand} {y:Opd} (ho:o.op=.panic x) (hx:cOpd x=some y) {t:TypeId} {v:AV} (hv:y.ev e=.iface t v) :
  ∃ r,(execOp a.eval o).run P w=.halt (.panic r) w∧VRel w G (dom h) (.iface t v) r:=by
 have hr:=opd_rel he hx
 rw [hv] at hr
 refine ⟨a.eval x,?_,hr⟩
 generalize hg:a.eval x=q at hr
 cases hr with
 | iface _ t v q hq=>simp [execOp,ho,hg,Instr.panic]
theorem m_s2b (s:Sim w G h) {e:Env} {a:Act} (he:EnvRel w G (dom h) e a) {o:Oper} {src dst el:TypeId} {x:Operand} {y:Opd} (ho:o.op=.convert src dst x) (hx:cOpd x=some y)
  (hs:P.underlying src=some .string) (hd:P.underlying dst=some (.slice el)) (hel:P.underlying el=some (.int .u8)) {q:List UInt8} (hv:y.ev e=.str q):MemOk P w G h a o (.lst (ofBytes q)) h:=by
 have hr:=opd_rel he hx
 rw [hv] at hr
 have hsz:(⟨q.toArray⟩:ByteArray).size=q.length:=by simp [ByteArray.size]
 have hrun:=run_bytes_of_string (P:=P) w src dst el ⟨q.toArray⟩ hs hd hel
 rw [hsz] at hrun
 have hf:Flat w G 1 (ofBytes q) (q.map fun b=>Value.int .u8 (b.toNat:Int)):=by
  refine ⟨by simp [ofBytes],fun u hu=>?_,fun i hi=>?_,fun i j hi hj=>?_⟩
  ·obtain ⟨b,_,rfl⟩:=List.mem_map.1 hu
   rfl
  ·simp only [ofBytes,List.length_map] at hi
   simp [ofBytes,List.getD_eq_getElem?_getD,hi,AV.cells]
  ·simp only [ofBytes,List.length_map] at hi
   have hj0:j=0:=by omega
   subst hj0
   simp [ofBytes,List.getD_eq_getElem?_getD,hi,AV.cells]
   exact .int _ _ _
 have hge:=grownCap_ge w q.length 0 el
 obtain ⟨G',k1,k2,k3⟩:=imm_row (w':=w.drew.alloc (.cells (bytesRow ⟨q.toArray⟩ (grownCap w q.length 0 el)) el
   ((bytesRow ⟨q.toArray⟩ (grownCap w q.length 0 el)).size,(bytesRow ⟨q.toArray⟩ (grownCap w q.length 0 el)).size+1))) s rfl rfl rfl (g:=w.heap.size) (Nat.le_refl _) (by simp) (by simp)
   (fun k hk=>heap_alloc_old w.drew _ hk) hf (fun j u hj=>by
    rw [cell_of_row _ w.heap.size j _ _ _ (heap_alloc_new w.drew _)]
    have hlt:=(List.getElem?_eq_some_iff.1 hj).1
    simp only [List.length_map] at hlt
    unfold bytesRow
    rw [Array.getElem?_append_left (by simpa using hlt)]
    simpa using hj) (cap:=grownCap w q.length 0 el) (by simpa [ofBytes] using hge)
 refine ⟨.value (.slice (some ⟨w.heap.size,0,none⟩) q.length (grownCap w q.length 0 el)),_,_,G',?_,.inl rfl,k1,k2,?_⟩
 ·simp [execOp,ho,str_shape hr,hrun]
 ·have:=k3 (dom h)
  simpa [ofBytes] using this
theorem bytesOf_parts:∀ {es:List AV} {q:List UInt8},bytesOf es=some q→sized 1 es=true∧es.length=q.length∧∀ i,i < es.length→∃ n,es.getD i .top=.int .u8 n∧q.getD i 0=UInt8.ofNat n.toNat
 | [],q,h=>by
  simp only [bytesOf,Option.some.injEq] at h
  subst h
  exact ⟨rfl,rfl,fun i hi=>by simp at hi⟩
 | e :: es,q,h=>by
  unfold bytesOf at h
  split at h
  ·cases h;rename_i hh;cases hh
  ·rename_i n r hh
   injection hh with h1 h2
   subst h1;subst h2
   split at h
   ·rename_i l hl
    injection h with h;subst h
    obtain ⟨k1,k2,k3⟩:=bytesOf_parts hl
    refine ⟨by simp [sized,AV.cells] at k1 ⊢;exact k1,by simp [k2],fun i hi=>?_⟩
    cases i with
    | zero=>exact ⟨n,rfl,rfl⟩
    | succ i=>simpa using k3 i (by simpa using hi)
   ·cases h
  ·cases h
theorem foldl_push:∀ (ns:List Int) (b:ByteArray),ns.foldl (fun r (n:Int)=>r.push (UInt8.ofNat n.toNat)) b=⟨b.data++(ns.map fun n=>UInt8.ofNat n.toNat).toArray⟩
 | [],b=>by simp
 | n :: ns,b=>by
  rw [List.foldl_cons,foldl_push ns]
  apply ByteArray.ext
  simp [ByteArray.push]
def numOf:AV→Int
 | .int _ n=>n
 | _=>0
theorem m_b2s (s:Sim w G h) {e:Env} {a:Act} (he:EnvRel w G (dom h) e a) {o:Oper} {src dst el:TypeId} {x:Operand} {y:Opd} (ho:o.op=.convert src dst x) (hx:cOpd x=some y)
  (hs:P.underlying src=some (.slice el)) (hel:P.underlying el=some (.int .u8)) (hd:P.underlying dst=some .string) {es:List AV} {q:List UInt8} (hes:elemsOf (y.ev e) h=some es) (hq:bytesOf es=some q) :
  MemOk P w G h a o (.str q) h:=by
 have hr:=opd_rel he hx
 obtain ⟨k1,k2,k3⟩:=bytesOf_parts hq
 obtain ⟨p,c,flat,hxv,hfl,hpn,hcell⟩:=src_rel s hr hes (by decide:0 < 1) k1
 have hnum:∃ ns:List Int,flat=ns.map (Value.int .u8)∧ns.map (fun n=>UInt8.ofNat n.toNat)=q:=by
  refine ⟨(List.range es.length).map fun i=>numOf (es.getD i .top),?_,?_⟩
  ·apply List.ext_getElem?
   intro i
   have hl:=hfl.len
   rw [Nat.mul_one] at hl
   by_cases hi:i < es.length
   ·obtain ⟨n,hn,_⟩:=k3 i hi
    have hrel:=hfl.rel i 0 hi (by decide)
    rw [hn] at hrel
    simp only [AV.cells,List.getD_cons_zero,Nat.mul_one,Nat.add_zero] at hrel
    have:=int_shape hrel
    have e1:flat[i]?=some (flat.getD i undef):=by simp [List.getD_eq_getElem?_getD,(by omega:i < flat.length)]
    rw [e1,this]
    rw [List.map_map,List.getElem?_map,List.getElem?_range hi]
    simp only [Option.map_some,Function.comp,hn,numOf]
   ·rw [List.getElem?_eq_none (by omega),List.getElem?_eq_none (by simp;omega)]
  ·apply List.ext_getElem?
   intro i
   by_cases hi:i < es.length
   ·obtain ⟨n,hn,hqi⟩:=k3 i hi
    have e1:q[i]?=some (q.getD i 0):=by simp [List.getD_eq_getElem?_getD,(by omega:i < q.length)]
    rw [e1,hqi,List.map_map,List.getElem?_map,List.getElem?_range hi]
    simp only [Option.map_some,Function.comp,hn,numOf]
   ·rw [List.getElem?_eq_none (by simp;omega),List.getElem?_eq_none (by omega)]
 obtain ⟨ns,rfl,hnq⟩:=hnum
 have hrun:(convert src dst (.slice p es.length c)).run P w=.ok (.string ⟨q.toArray⟩) w:=by
  cases p with
  | none=>
   have h0:=hpn rfl
   subst h0
   have:q=[]:=List.eq_nil_of_length_eq_zero (by simpa using k2.symm)
   subst this
   exact run_convert_bytes_nil (P:=P) (w:=w) src el hs hel _ _ dst hd
  | some ad=>
   rw [run_convert_bytes_string w src dst el _ _ _ hs hel hd]
   have hl:es.length=(ns.map (Value.int .u8)).length:=by have:=hfl.len;omega
   rw [hl,run_bytesToString w ad _ c ns (by
    rw [run_loadCells_list (P:=P) w ad (ns.map (Value.int .u8)) fun j v hj=>by
     obtain ⟨ad',e1,e2⟩:=hcell j v hj
     injection e1 with e1;subst e1
     exact e2])]
   rw [foldl_push,hnq]
   congr 3
   simp [ByteArray.empty,ByteArray.emptyWithCapacity]
   rfl
 exact ⟨.value (.string ⟨q.toArray⟩),_,w,G,by simp [execOp,ho,hxv,hrun],.inl rfl,s,Goes.refl w G h,.str _ _⟩
theorem flat_replicate {z:AV} {zv:Value} (hz:VRel w G NoLoc z zv) {sz:Nat} (hl:z.cells.length=sz) (hsz:0 < sz) (n:Nat):Flat w G sz (List.replicate n z) (madeCells zv.cells (n * sz)).toList:=by
 have hc:=hz.cellsRel (by omega)
 have hzs:zv.cells.size=sz:=by rw [hc.1,hl]
 have hget:∀ k,k < n * sz→(madeCells zv.cells (n * sz)).toList.getD k undef=zv.cells.getD (k % sz) undef:=fun k hk=>by
  have hlt:k % sz < zv.cells.size:=by rw [hzs];exact Nat.mod_lt _ hsz
  rw [getD_toList]
  simp only [madeCells,Array.getD_eq_getD_getElem?,Array.getElem?_map,Array.getElem?_range,hk,if_true,Option.map_some,Option.getD_some,hzs]
  rw [getElem!_pos zv.cells _ hlt,Array.getElem?_eq_getElem hlt]
  rfl
 refine ⟨by simp [size_madeCells],fun u hu=>?_,fun i hi=>?_,fun i j hi hj=>?_⟩
 ·obtain ⟨k,hk,rfl⟩:=List.getElem_of_mem hu
  have hk':k < n * sz:=by simpa [size_madeCells] using hk
  have:=hget k hk'
  rw [List.getD_eq_getElem?_getD,List.getElem?_eq_getElem hk] at this
  simp only [Option.getD_some] at this
  rw [this]
  exact (hc.2 _ (by rw [hl];exact Nat.mod_lt _ hsz)).1
 ·simp only [List.length_replicate] at hi
  simp [List.getD_eq_getElem?_getD,List.getElem?_replicate,hi,hl]
 ·simp only [List.length_replicate] at hi
  rw [hget _ (idx_lt hi hj)]
  have d2:(i * sz+j) % sz=j:=by rw [Nat.mul_comm,Nat.mul_add_mod,Nat.mod_eq_of_lt hj]
  rw [d2]
  have:(List.replicate n z).getD i .top=z:=by simp [List.getD_eq_getElem?_getD,List.getElem?_replicate,hi]
  rw [this]
  exact (hc.2 j (by omega)).2
theorem m_mkS (s:Sim w G h) (hn:h≠[]) {e:Env} {a:Act} (he:EnvRel w G (dom h) e a) {o:Oper} {t el:TypeId} {i:TypeInfo} {z:AV} {l c:Operand} {l' c':Opd} (ho:o.op=.makeSlice t l c)
  (hu:P.underlying t=some (.slice el)) (hi:P.info? el=some i) (hz:zeroOf P el=some z) (hsz:0 < i.size) (hl:cOpd l=some l') (hc:cOpd c=some c')
  {K:Cfg} {O:Orc} {v:AV} {h':Heap} (hev:evM K O (.mkS el i.size i.bytes z l' c') e h=some (.val v h')):MemOk P w G h a o v h':=by
 have hrl:=opd_rel he hl
 have hrc:=opd_rel he hc
 obtain ⟨i',zv,hi',hzv,hzz,hzl⟩:=zero_parts hz
 rw [hi] at hi'
 injection hi' with hi';subst hi'
 simp only [evM] at hev
 split at hev
 ·rename_i kl n kc m hL hC
  split at hev
  ·rename_i cc
   obtain ⟨rfl,c1,c2,c3,c4,c5⟩:=cc
   injection hev with hev
   injection hev with e1 e2
   subst e1;subst e2
   rw [hL] at hrl
   rw [hC] at hrc
   have hzr:VRel w G NoLoc z zv:=by rw [hzz];exact vrel_ofV zv
   have hb:(n.toNat) * i.bytes≤1099511627776:=c2
   have hr:n.toNat≤1099511627776:=c3
   have hnn:((n.toNat:Nat):Int)=n:=Int.toNat_of_nonneg c1
   have hbI:(i.bytes:Int) * n≤281474976710656:=by
    have:((n.toNat * i.bytes:Nat):Int)≤1099511627776:=by omega
    rw [Int.natCast_mul,hnn,Int.mul_comm] at this
    omega
   have hrun:=run_make (P:=P) w t el i zv hu hi hzv kl kc n n c1 (Int.le_refl _) hbI (by omega)
   have hf:=flat_replicate (w:=w) (G:=G) hzr c4 hsz n.toNat
   have hout:AppOut w (w.alloc (.cells (madeCells zv.cells (n.toNat * i.size)) el)) none el i.size (madeCells zv.cells (n.toNat * i.size)).toList (List.replicate n.toNat z).length w.heap.size n.toNat (madeCells zv.cells (n.toNat * i.size)):=by
    refine ⟨rfl,rfl,rfl,by simp,heap_alloc_new w _,by simp [size_madeCells],by simp,by unfold maxLen;omega,?_,fun k hk _=>heap_alloc_old w _ hk,.inr (Nat.le_refl _)⟩
    rw [List.take_of_length_le]
    simp [size_madeCells]
   obtain ⟨k1,k2,k3⟩:=new_arr s hn hf hsz hout
   simp only [List.length_replicate] at k1 k2 k3
   refine ⟨.value (.slice (some ⟨w.heap.size,0,none⟩) n.toNat n.toNat),_,_,_,?_,.inl rfl,k1,k2,k3⟩
   simp only [execOp,ho,int_shape hrl,int_shape hrc,Sem.run_bind,hrun,Result.andThen]
   rfl
  ·cases hev
 ·cases hev
theorem run_slice_row {t el:TypeId} (hu:P.underlying t=some (.slice el)) {sz:Nat} {ag:Bool} (hsh:shapeOf P el=some (ag,sz)) {p:Option Addr} {n cap:Nat} {lo hi mx:Option Value} {l r m:Nat}
  (hb:(Instr.sliceBounds true n cap lo hi mx).run P w=.ok (l,r,m) w) :
  (Instr.sliceAt t (.slice p n cap) lo hi mx).run P w=.ok (.slice (if m=l then p else p.map (·.add (l * sz))) (r - l) (m - l)) w:=by
 have hS:=run_sizeOf hsh w
 simp only [Instr.sliceAt,Sem.run_bind,run_underlying hu,Result.andThen,Instr.slice,hb,hS]
 rfl
theorem m_slL (s:Sim w G h) {e:Env} {a:Act} (he:EnvRel w G (dom h) e a) {o:Oper} {t el:TypeId} {x:Operand} {y:Opd} {lo hi mx:Option Operand} {lo' hi' mx':Option Opd} {sz:Nat} {ag:Bool}
  (ho:o.op=.slice t x lo hi mx) (hx:cOpd x=some y) (hl:cOpdO lo=some lo') (hh:cOpdO hi=some hi') (hm:cOpdO mx=some mx') (hu:P.underlying t=some (.slice el)) (hsh:shapeOf P el=some (ag,sz))
  {K:Cfg} {O:Orc} {v:AV} {h':Heap} (hev:evM K O (.slL sz y lo' hi' mx') e h=some (.val v h')):MemOk P w G h a o v h':=by
 have hr:=opd_rel he hx
 simp only [evM] at hev
 split at hev
 ·
  have hmx:mx=none:=by
   cases mx with
   | none=>rfl
   | some m=>simp only [cOpdO] at hm;split at hm<;>cases hm
  subst hmx
  split at hev
  ·rename_i es h1 hvw
   split at hev
   ·rename_i hsd
    split at hev
    ·rename_i l r hb
     injection hev with hev
     injection hev with e1 e2
     subst e1;subst e2
     obtain ⟨G',k1,k2,k3⟩:=view_ok _ s hr hvw
     generalize hg:a.eval x=xv at k3
     cases k3 with
     | lst0 _ p c=>
      obtain ⟨b1,b2,b3⟩:=run_bnds (P:=P) (w:=w) he hl hh (sl:=true) hb (Nat.zero_le c) (by simp)
      have hr0:r=0:=by simpa using b3
      have hl0:l=0:=by omega
      subst hr0;subst hl0
      simp only [List.length_nil] at b1
      have hrun:=run_slice_row (p:=p) hu hsh b1
      refine ⟨_,_,w,G',by simp only [execOp,ho,hg,Option.map_none,Sem.run_bind,hrun,Result.andThen];rfl,.inl rfl,k1,k2,?_⟩
      exact .lst0 _ _ _
     | lst _ es b off c s' vf hle hs hc hv=>
      obtain ⟨b1,b2,b3⟩:=run_bnds (P:=P) (w:=w) he hl hh (sl:=true) hb hle (by simp)
      have hrun:=run_slice_row (p:=some ⟨b,off,none⟩) hu hsh b1
      refine ⟨_,_,w,G',by simp only [execOp,ho,hg,Option.map_none,Sem.run_bind,hrun,Result.andThen];rfl,.inl rfl,k1,k2,?_⟩
      have hlen:((es.take r).drop l).length=r - l:=by simp;omega
      by_cases hz:r=l
      ·have:(es.take r).drop l=[]:=List.eq_nil_of_length_eq_zero (by omega)
       rw [this,hz,Nat.sub_self]
       exact .lst0 _ _ _
      ·have hss:s'=sz:=by rw [←hs l (by omega)];exact sized_get hsd (by omega)
       subst hss
       rw [if_neg (by omega)]
       simp only [Option.map_some,addr_add]
       rw [←hlen]
       have hgd:∀ i,i < ((es.take r).drop l).length→((es.take r).drop l).getD i .top=es.getD (l+i) .top:=fun i hi=>by
        simp only [List.getD_eq_getElem?_getD]
        rw [List.getElem?_drop,List.getElem?_take_of_lt (by omega)]
       refine .lst _ _ b (off+l * s') _ s' (fun i j=>vf (l+i) j) (by omega) (fun i hi=>?_) (fun i j hi hj=>?_) fun i j hi hj=>?_
       ·rw [hgd i hi];exact hs _ (by omega)
       ·have:=hc (l+i) j (by omega) hj
        rw [Nat.add_mul,←Nat.add_assoc] at this
        exact this
       ·rw [hgd i hi];exact hv _ _ (by omega) hj
    ·cases hev
   ·cases hev
  ·rename_i h1 hvw
   split at hev
   ·rename_i lr hb
    injection hev with hev
    injection hev with e1 e2
    subst e1;subst e2
    obtain ⟨G',k1,k2,k3⟩:=view_ok _ s hr hvw
    have hg:a.eval x=.slice none 0 0:=by
     generalize a.eval x=xv at k3
     cases k3;rfl
    obtain ⟨l,r⟩:=lr
    obtain ⟨b1,b2,b3⟩:=run_bnds (P:=P) (w:=w) he hl hh (sl:=true) hb (Nat.le_refl 0) (by simp)
    have hr0:r=0:=by omega
    have hl0:l=0:=by omega
    subst hr0;subst hl0
    have hrun:=run_slice_row (p:=none) hu hsh b1
    refine ⟨_,_,w,G',by simp only [execOp,ho,hg,Option.map_none,Sem.run_bind,hrun,Result.andThen];rfl,.inl rfl,k1,k2,?_⟩
    exact .nils _
   ·cases hev
  ·cases hev
 ·
  rename_i m'
  obtain ⟨m0,hm0,hmv⟩:∃ m0,mx=some m0∧VRel w G (dom h) (m'.ev e) (a.eval m0):=by
   rcases opdO_rel he hm with ⟨_,hbad⟩ | ⟨m0,m1,e1,e2,hrm⟩
   ·cases hbad
   ·injection e2 with e2;subst e2;exact ⟨m0,e1,hrm⟩
  subst hm0
  split at hev
  ·rename_i km kh hmE hloE hhiE
   rw [hmE] at hmv
   have hlo:lo=none:=by
    rcases opdO_rel he hl with ⟨q,_⟩ | ⟨x0,y0,q1,q2,_⟩
    ·exact q
    ·subst q2;simp only [oev] at hloE;cases hloE
   have hhi:∃ k0,hi.map a.eval=some (.int k0 0):=by
    rcases opdO_rel he hh with ⟨_,q⟩ | ⟨x0,y0,q1,q2,hrh⟩
    ·subst q;simp only [oev] at hhiE;cases hhiE
    ·subst q2
     simp only [oev,Option.some.injEq] at hhiE
     rw [hhiE] at hrh
     exact ⟨kh,by rw [q1];simp [int_shape hrh]⟩
   obtain ⟨k0,hhi⟩:=hhi
   subst hlo
   have hmm:a.eval m0=.int km 0:=int_shape hmv
   have key:∀ p n c,a.eval x=.slice p n c→MemOk P w G h a o .emp h:=fun p n c hg=>by
    have b1:(Instr.sliceBounds true n c ((none:Option Operand).map a.eval) (hi.map a.eval) (some (a.eval m0))).run P w=.ok (0,0,0) w:=by
     simp [Instr.sliceBounds,hhi,hmm,run_sliceBound (P:=P) w km 0 c _ (by omega) (by omega),run_sliceBound (P:=P) w k0 0 0 _ (by omega) (by omega)]
    have hrun:=run_slice_row (p:=p) hu hsh b1
    refine ⟨_,_,w,G,by simp only [execOp,ho,hg,Option.map_some,Sem.run_bind,hrun,Result.andThen];rfl,.inl rfl,s,Goes.refl w G h,?_⟩
    exact .emp _ _
   have hsl:∃ k,slLen (y.ev e)=some k∧v=.emp∧h'=h:=by
    split at hev
    ·rename_i q;injection hev with hev;injection hev with e1 e2;exact ⟨_,by rw [q];rfl,e1.symm,e2.symm⟩
    ·rename_i q;injection hev with hev;injection hev with e1 e2;exact ⟨_,by rw [q];rfl,e1.symm,e2.symm⟩
    ·rename_i q;injection hev with hev;injection hev with e1 e2;exact ⟨_,by rw [q];rfl,e1.symm,e2.symm⟩
    ·rename_i q;injection hev with hev;injection hev with e1 e2;exact ⟨_,by rw [q];rfl,e1.symm,e2.symm⟩
    ·cases hev
   obtain ⟨k,hk,rfl,rfl⟩:=hsl
   obtain ⟨p,c,hg⟩:=slLen_shape hr hk
   exact key p _ c hg
  ·cases hev
theorem fillS_rel {e:Env} {a:Act} {sz:Nat} (hsz:0 < sz):∀ {ps:List (Nat×Operand)} {us:List AV} {es r:List AV} {c:Array Value},
  us.length=ps.length→(∀ i,i < us.length→∃ L,VRel w G L (us.getD i .top) (((ps.map (·.2)).map a.eval).getD i undef))→Flat w G sz es c.toList→fillS sz es ((ps.map (·.1)).zip us)=some r →
  ∃ cells,Instr.fill (fun i=>some (i * sz,sz)) c (ps.map fun (i,x)=>(i,a.eval x))=some cells∧Flat w G sz r cells.toList∧r.length=es.length
 | [],us,es,r,c,hl,hu,hf,hr=>by
  simp only [List.map_nil,List.zip_nil_left,fillS,Option.some.injEq] at hr
  subst hr
  exact ⟨c,rfl,hf,rfl⟩
 | (i,x) :: ps,us,es,r,c,hl,hu,hf,hr=>by
  cases us with
  | nil=>simp at hl
  | cons u us=>
   simp only [List.map_cons,List.zip_cons_cons,fillS] at hr
   split at hr
   ·rename_i cc
    obtain ⟨c1,c2,c3⟩:=cc
    obtain ⟨L,hx⟩:=hu 0 (by simp)
    simp only [List.map_cons,List.getD_cons_zero] at hx
    have hxc:=(hx.pure_ (L':=NoLoc) c2).cellsRel (by omega)
    have hxs:(a.eval x).cells.size=sz:=by rw [hxc.1,c3]
    have hcs:c.size=es.length * sz:=by have:=hf.len;simpa using this
    have hfit:i * sz+sz≤c.size:=by
     rw [hcs]
     have:(i+1) * sz≤es.length * sz:=Nat.mul_le_mul_right _ c1
     rwa [Nat.add_mul,Nat.one_mul] at this
    obtain ⟨C,hC⟩:∃ C,C=((a.eval x).cells.zipIdx.foldl (fun cs (q:Value×Nat)=>cs.setIfInBounds (i * sz+q.2) q.1) c):=⟨_,rfl⟩
    have hget:∀ k,C[k]?=if i * sz≤k∧k < i * sz+sz then (a.eval x).cells[k - i * sz]? else c[k]?:=fun k=>by
     rw [hC,←Array.foldl_toList,Array.toList_zipIdx]
     have:=get_setRun (i * sz) (a.eval x).cells.toList 0 c k (by simp;omega)
     simpa [hxs] using this
    have hsize:C.size=c.size:=by
     rw [hC,←Array.foldl_toList];exact size_setRun _ _ _
    have hf':Flat w G sz (es.set i u) C.toList:=by
     have hgd:∀ j,j < es.length→(es.set i u).getD j .top=if i=j then u else es.getD j .top:=fun j hj=>by
      simp only [List.getD_eq_getElem?_getD,List.getElem?_set]
      by_cases e:i=j
      ·simp [e,hj]
      ·simp [e]
     have key:∀ k,k < c.size→∃ v,C.toList.getD k undef=v ∧
       v=(if i * sz≤k∧k < i * sz+sz then (a.eval x).cells.getD (k - i * sz) undef else c.getD k undef):=fun k hk=>by
      refine ⟨_,rfl,?_⟩
      rw [getD_toList]
      simp only [Array.getD_eq_getD_getElem?,hget k]
      split<;>rfl
     refine ⟨by simp [hsize,hcs],fun v hv=>?_,fun j hj=>?_,fun j k hj hk=>?_⟩
     ·obtain ⟨k,hk,rfl⟩:=List.getElem_of_mem hv
      have hk':k < c.size:=by simpa [hsize] using hk
      obtain ⟨v,e1,e2⟩:=key k hk'
      rw [List.getD_eq_getElem?_getD,List.getElem?_eq_getElem hk] at e1
      simp only [Option.getD_some] at e1
      rw [e1,e2]
      by_cases cr:i * sz≤k∧k < i * sz+sz
      ·rw [if_pos cr];exact (hxc.2 _ (by omega)).1
      ·rw [if_neg cr]
       refine hf.one _ ?_
       rw [Array.getD_eq_getD_getElem?,Array.getElem?_eq_getElem hk']
       simp
     ·rw [List.length_set] at hj
      rw [hgd j hj]
      split
      ·exact c3
      ·exact hf.sized j hj
     ·rw [List.length_set] at hj
      have hk':j * sz+k < c.size:=by rw [hcs];exact idx_lt hj hk
      obtain ⟨v,e1,e2⟩:=key _ hk'
      rw [e1,e2,hgd j hj]
      by_cases e:i=j
      ·subst e
       rw [if_pos rfl,if_pos (by omega),show i * sz+k - i * sz=k by omega]
       exact (hxc.2 k (by omega)).2
      ·have hout:¬ (i * sz≤j * sz+k∧j * sz+k < i * sz+sz):=by
        rintro ⟨q1,q2⟩
        rcases Nat.lt_or_gt_of_ne e with q | q
        ·have:(i+1) * sz≤j * sz:=Nat.mul_le_mul_right _ q
         rw [Nat.add_mul,Nat.one_mul] at this
         omega
        ·have:(j+1) * sz≤i * sz:=Nat.mul_le_mul_right _ q
         rw [Nat.add_mul,Nat.one_mul] at this
         omega
       rw [if_neg e,if_neg hout]
       have:=hf.rel j k hj hk
       rwa [getD_toList undef c] at this
    obtain ⟨cells,k1,k2,k3⟩:=fillS_rel hsz (ps:=ps) (us:=us) (e:=e) (by simpa using hl) (fun j hj=>by simpa using hu (j+1) (by simpa using hj)) hf' hr
    refine ⟨cells,?_,k2,by rw [k3,List.length_set]⟩
    simp only [List.map_cons,Instr.fill]
    rw [if_neg,←k1,hC]
    simp only [Bool.or_eq_true,bne_iff_ne,ne_eq,decide_eq_true_eq,not_or,decide_not,Bool.not_eq_true',decide_eq_false_iff_not,Decidable.not_not]
    omega
   ·cases hr
theorem partsS_split {e:Env} {a:Act} {L:Loc→Prop} (he:EnvRel w G L e a):∀ {ps:List (Nat×Operand)} {qs:List (Nat×Opd)},partsS ps=some qs →
  qs.map (·.1)=ps.map (·.1)∧qs.length=ps.length∧∀ i,i < qs.length→VRel w G L ((qs.map fun (_,x)=>x.ev e).getD i .top) (((ps.map (·.2)).map a.eval).getD i undef)
 | [],qs,h=>by
  simp only [partsS,Option.some.injEq] at h
  subst h
  exact ⟨rfl,rfl,fun i hi=>by simp at hi⟩
 | (i,x) :: r,qs,h=>by
  simp only [partsS] at h
  split at h
  ·rename_i y s hy hs
   injection h with h;subst h
   obtain ⟨k1,k2,k3⟩:=partsS_split he hs
   refine ⟨by simp [k1],by simp [k2],fun j hj=>?_⟩
   cases j with
   | zero=>simpa using opd_rel he hy
   | succ j=>simpa using k3 j (by simpa using hj)
  ·cases h
theorem m_bldS (s:Sim w G h) (hn:h≠[]) {e:Env} {a:Act} (he:EnvRel w G (dom h) e a) {o:Oper} {t el:TypeId} {n:Nat} {ps:Array (Nat×Operand)} {qs:List (Nat×Opd)} {z:AV} {ag:Bool} {sz:Nat} {own:Bool}
  (ho:o.op=.buildSlice t n ps) (hu:P.underlying t=some (.slice el)) (hsh:shapeOf P el=some (ag,sz)) (hz:zeroOf P el=some z) (hps:partsS ps.toList=some qs) (hbig:n * sz≤2 ^ 24) (hsz:0 < sz)
  {K:Cfg} {O:Orc} {v:AV} {h':Heap} (hev:evM K O (.bldS el sz n z qs own) e h=some (.val v h')):MemOk P w G h a o v h':=by
 obtain ⟨i,zv,hi,hzv,hzz,hzl⟩:=zero_parts hz
 obtain ⟨d,i',_,hi',hisz,_⟩:=shape_parts hsh
 rw [hi] at hi'
 injection hi' with hi';subst hi'
 have hzr:VRel w G NoLoc z zv:=by rw [hzz];exact vrel_ofV zv
 obtain ⟨p1,p2,p3⟩:=partsS_split he hps
 simp only [evM] at hev
 split at hev
 ·cases hev
 ·rename_i vs h1 hvs
  obtain ⟨G1,k1,k2,k3,k4⟩:=views_ok _ (xs:=fun i=>((ps.toList.map (·.2)).map a.eval).getD i undef) s (fun i hi=>p3 i (by simpa using hi)) hvs
  split at hev
  ·cases hev
  ·rename_i es hes
   split at hev
   ·rename_i cc
    obtain ⟨c1,c2⟩:=cc
    rw [p1] at hes
    have hf0:Flat w G1 sz (List.replicate n z) (madeCells zv.cells (n * sz)).toList:=(flat_replicate hzr c1 hsz n).mono k2.imm
    obtain ⟨cells,f1,f2,f3⟩:=fillS_rel (e:=e) (a:=a) hsz (ps:=ps.toList) (us:=vs) (by rw [k3];simp [p2]) (fun i hi=>⟨_,k4 i (by rw [←k3];exact hi)⟩) hf0 hes
    rw [List.length_replicate] at f3
    have hcl:cells.size=n * sz:=by have:=f2.len;rw [f3] at this;simpa using this
    have hrun:(execOp a.eval o).run P w=.ok (.value (.slice (some ⟨w.heap.size,0,none⟩) n n)) (w.alloc (.cells cells el)):=by
     have hS:=run_sizeOf hsh w
     have hZ:(zeroValue el).run P w=.ok zv w:=by simp [zeroValue,typeInfo,hi,hzv]
     have hnot:¬ n * sz > 2 ^ 24:=by omega
     have hfill:Instr.fill (fun i=>some (i * sz,sz)) ((Array.range (n * sz)).map fun x=>(if n * sz=0 then #[] else zv.cells)[x % (if n * sz=0 then #[] else zv.cells).size]!) (ps.map fun (i,x)=>(i,a.eval x)).toList=some cells:=by
      rw [←f1,Array.toList_map]
      congr 1
      by_cases h0:n * sz=0
      ·simp [h0,madeCells]
      ·rw [if_neg h0];rfl
     have hB:(Instr.buildSlice t n (ps.map fun (i,x)=>(i,a.eval x))).run P w=.ok (.slice (some ⟨w.heap.size,0,none⟩) n n) (w.alloc (.cells cells el)):=by
      unfold Instr.buildSlice
      simp only [Sem.run_bind,run_underlying hu,Result.andThen,hS]
      rw [if_neg hnot]
      by_cases h0:n * sz=0
      ·rw [if_pos h0] at hfill ⊢
       simp only [Sem.run_bind,Sem.run_pure,Result.andThen]
       rw [hfill]
       simp [newRow]
      ·rw [if_neg h0] at hfill ⊢
       simp only [Sem.run_bind,hZ,Sem.run_pure,Result.andThen]
       rw [hfill]
       simp [newRow]
     simp only [execOp,ho,Sem.run_bind,hB,Result.andThen]
     rfl
    split at hev
    ·injection hev with hev
     injection hev with e1 e2
     subst e1;subst e2
     have hout:AppOut w (w.alloc (.cells cells el)) none el sz cells.toList es.length w.heap.size n cells:=by
      refine ⟨rfl,rfl,rfl,by simp,heap_alloc_new w _,hcl,by omega,?_,?_,fun k hk _=>heap_alloc_old w _ hk,.inr (Nat.le_refl _)⟩
      ·unfold maxLen
       have:n * 1≤n * sz:=Nat.mul_le_mul_left _ hsz
       omega
      ·rw [List.take_of_length_le]
       simp [hcl,f3]
     have hn1:h1≠[]:=fun e0=>by have:=k2.depth;rw [e0] at this;cases h<;>simp_all
     obtain ⟨q1,q2,q3⟩:=new_arr k1 hn1 f2 hsz hout
     rw [f3] at q1 q2 q3
     exact ⟨_,_,_,_,hrun,.inl rfl,q1,k2.trans q2,q3⟩
    ·injection hev with hev
     injection hev with e1 e2
     subst e1;subst e2
     obtain ⟨G2,q1,q2,q3⟩:=imm_row (w':=w.alloc (.cells cells el)) k1 rfl rfl rfl (g:=w.heap.size) (Nat.le_refl _) (by simp) (by simp) (fun k hk=>heap_alloc_old w _ hk) f2 (fun j u hj=>by
      rw [cell_of_row _ w.heap.size j cells el (0,0) (heap_alloc_new w _)]
      simpa using hj) (cap:=n) (by omega)
     have:=q3 (dom h1)
     rw [f3] at this
     exact ⟨_,_,_,G2,hrun,.inl rfl,q1,k2.trans q2,this⟩
   ·cases hev
theorem refOks_pure {cs:List AV} (h:(AV.agg cs).pure=true) {i:Nat} (hi:i < cs.length):(cs.getD i .top).pure=true:=by
 unfold AV.pure at h
 simp only [AV.refOk] at h
 exact refOks_get h i hi
theorem m_slA (s:Sim w G h) {e:Env} {a:Act} (he:EnvRel w G (dom h) e a) {o:Oper} {t el:TypeId} {x:Operand} {y:Opd} {lo hi:Option Operand} {lo' hi':Option Opd} {sz n:Nat} {ag:Bool}
    (ho:o.op=.slice t x lo hi none) (hx:cOpd x=some y) (hl:cOpdO lo=some lo') (hh:cOpdO hi=some hi') (hu:P.underlying t=some (.array n el)) (hsh:shapeOf P el=some (ag, sz))
    {K:Cfg} {O:Orc} {v:AV} {h':Heap} (hev:evM K O (.slA n sz y lo' hi') e h=some (.val v h')):MemOk P w G h a o v h':=by
  have hr:=opd_rel he hx
  simp only [evM] at hev
  split at hev
  · rename_i la hy
    rw [hy] at hr
    split at hev
    · rename_i tb fz cs hb
      split at hev
      · rename_i cc
        obtain ⟨c1, c2, c3, c4⟩:=cc
        subst c2
        split at hev
        · rename_i l r hbd
          injection hev with hev
          injection hev with e1 e2
          subst e1;subst e2
          generalize hg:a.eval x=xv at hr
          cases hr with
          | ptr _ la _ b hLa hm hbk=>
            obtain ⟨b', c, h1, h2, h3, h4, h5, h6⟩:=s.blk la _ hb
            rw [hbk] at h2
            injection h2 with h2;subst h2
            simp only [AV.cells] at h4 h5
            obtain ⟨b1, b2, b3⟩:=run_bnds (P:=P) (w:=w) he hl hh (sl:=false) hbd (Nat.le_refl n) (fun _=>rfl)
            have hI:ImmKept w G w (G.still fun k q=>k=b∧q < n):=fun k q hk=>⟨.inl hk, rfl⟩
            have hgo:=Goes.update (w:=w) (w':=w) (G:=G) (G':=G.still fun k q=>k=b∧q < n) (B:=.box tb true (.agg cs)) hLa rfl rfl rfl (Nat.le_refl _) (fun _ _ _=>rfl) (fun _ _=>⟨rfl, rfl, rfl⟩) (.inl ⟨rfl, rfl, rfl⟩) hI (fun _ hk=>.inl hk) (fun _ _ hk=>hk.elim .inl fun hk=>.inr (by rw [hk.1];exact hbk))
            have hS:=run_sizeOf hsh w
            have hrun:(execOp a.eval o).run P w=.ok (.value (.slice (some (if n=l then ⟨b, 0, none⟩ else ⟨b, l, none⟩)) (r - l) (n - l))) w:=by
              have hB:(Instr.sliceAt t (.pointer (some ⟨b, 0, none⟩)) (lo.map a.eval) (hi.map a.eval) none).run P w=.ok (.slice (some (if n=l then ⟨b, 0, none⟩ else ⟨b, l, none⟩)) (r - l) (n - l)) w:=by
                simp only [Instr.sliceAt, Sem.run_bind, run_underlying hu, Result.andThen, Instr.sureAddr, Sem.run_pure, b1, hS, addr_add, Nat.mul_one, Nat.zero_add]
              simp only [execOp, ho, hg, Option.map_none, Sem.run_bind, hB, Result.andThen]
              rfl
            refine ⟨_, _, w, G.still (fun k q=>k=b∧q < n), hrun, .inl rfl, s.update (G':=G.still fun k q=>k=b∧q < n) hLa (Nat.le_refl _) (fun _ _ _=>rfl) (fun _ _=>⟨rfl, rfl, rfl⟩) (.inl ⟨rfl, rfl, rfl⟩) hI (fun k q hk=>?_) (fun _ hk=>.inl hk) ?_, hgo, ?_⟩
            · rcases hk with hk | ⟨rfl, hk⟩
              · exact .inl hk
              · exact .inr ⟨hbk, s.lt hLa hbk⟩
            · exact ⟨b, c, h1, hbk, h3, h4, fun j hj=>⟨(h5 j hj).1, (h5 j hj).2.mono hI fun q hq=>⟨⟨hq.1, (dom_hset h la q _).2 hq.2⟩, .inl ⟨rfl, rfl, rfl⟩⟩⟩, fun _ _=>rfl⟩
            · have hlen:((cs.take r).drop l).length=r - l:=by simp;omega
              by_cases hz:r=l
              · have:(cs.take r).drop l=[]:=List.eq_nil_of_length_eq_zero (by omega)
                rw [this, hz, Nat.sub_self]
                exact .lst0 _ _ _
              · rw [if_neg (by omega), ← hlen]
                have hgd:∀ i, i < ((cs.take r).drop l).length→((cs.take r).drop l).getD i .top=cs.getD (l+i) .top:=fun i hi=>by
                  simp only [List.getD_eq_getElem?_getD]
                  rw [List.getElem?_drop, List.getElem?_take_of_lt (by omega)]
                have hone:∀ i, i < cs.length→(cs.getD i .top).cells=[cs.getD i .top]∨∃ q, (cs.getD i .top)=.agg [q]:=fun i hi=>by
                  have:=sized_get c3 hi
                  cases hq:cs.getD i .top<;>rw [hq] at this<;>simp only [AV.cells] at this ⊢<;>first
                    | exact .inl trivial
                    | (simp at this;done)
                    | (right
                       rename_i l0
                       cases l0 with
                       | nil=>simp at this
                       | cons q l1=>
                         cases l1 with
                         | nil=>exact ⟨q, rfl⟩
                         | cons q2 l2=>simp at this)
                refine .lst _ _ b l _ 1 (fun i j=>c.getD (l+i) undef) (by omega) (fun i hi=>?_) (fun i j hi hj=>?_) fun i j hi hj=>?_
                · rw [hgd i hi];exact sized_get c3 (by omega)
                · have hj0:j=0:=by omega
                  subst hj0
                  rw [Nat.mul_one, Nat.add_zero]
                  exact ⟨cells_get h3 (by omega), .inr ⟨rfl, by omega⟩, (h5 (l+i) (by omega)).1⟩
                · have hj0:j=0:=by omega
                  subst hj0
                  rw [hgd i hi]
                  have h7:=(h5 (l+i) (by omega)).2.pure_ (L':=NoLoc) (refOks_pure c4 (by omega))
                  have h8:=h7.mono hI (L':=NoLoc) fun q hq=>hq.elim
                  rcases hone (l+i) (by omega) with e1 | ⟨q, e1⟩
                  · rw [e1];exact h8
                  · rw [e1] at h8 ⊢
                    -- an aggregate is no cell
                    have ho:=(h5 (l+i) (by omega)).1
                    cases hcv:c.getD (l+i) undef<;>rw [hcv] at h8 ho<;>first
                      | (cases h8;done)
                      | cases ho
        · cases hev
      · cases hev
    · cases hev
  · cases hev
end Go.Ab
/-
  Owned slices whose elements hold slices that nobody else holds.
-/
namespace Go.Ab
open Go.RowKit
variable {P:Program} {w:World} {G:Gm} {h:Heap}
theorem hnext_hset (h:Heap) (a:Loc) (B:Blk):hnext (hset h a B)=hnext h:=by
 cases h with
 | nil=>rfl
 | cons f o=>
  unfold hset
  split
  ·simp [hnext]
  ·simp [hnext,hset_length]
theorem hset_ne {h:Heap} (hn:h≠[]) (a:Loc) (B:Blk):hset h a B≠[]:=fun e=>by
 have:=hset_length h a B
 rw [e] at this
 cases h<;>simp_all
theorem getE_cell {u:AV} {k:Nat} (hk:k < u.cells.length):getE false 1 u k=some (u.cells.getD k .top):=by
 unfold getE
 split
 ·rename_i c
  obtain ⟨rfl,c2,c3⟩:=c
  cases u<;>simp_all [AV.isAgg,AV.cells]
 ·simp [List.getD_eq_getElem?_getD,hk]
theorem idx_eq {i j i' j' sz:Nat} (hj:j < sz) (hj':j' < sz):i * sz+j=i' * sz+j'↔i=i'∧j=j':=by
 constructor
 ·intro h
  have h1:(i * sz+j) / sz=i:=by rw [Nat.mul_comm,Nat.mul_add_div (by omega),Nat.div_eq_of_lt hj,Nat.add_zero]
  have h2:(i' * sz+j') / sz=i':=by rw [Nat.mul_comm,Nat.mul_add_div (by omega),Nat.div_eq_of_lt hj',Nat.add_zero]
  rw [h,h2] at h1
  subst h1
  exact ⟨rfl,by omega⟩
 ·rintro ⟨rfl,rfl⟩;rfl
theorem bareK_get {k:Nat} {es:List AV} (hb:bareK k es=true) {i:Nat} (hi:i < es.length):(es.getD i .top).cells.getD k .top=.nils:=by
 unfold bareK at hb
 rw [List.all_eq_true] at hb
 have:=hb es[i] (List.getElem_mem hi)
 rw [show es.getD i .top=es[i] by simp [List.getD_eq_getElem?_getD,hi]]
 split at this
 ·assumption
 ·cases this
theorem len_at {G:Gm} {L:Loc→Prop} {la:Loc} {n sz i o:Nat} {x:Value} (hp:VRel w G L (.eptr la n sz i o) x) (hl:G.len la=some n):∃ b,G.blk la=some b∧x=.pointer (some ⟨b,i * sz+o,none⟩)∧L la:=by
 cases hp with
 | eptr _ _ _ _ _ _ m b hLa hm hle hbk=>
  rw [hl] at hm
  injection hm with hm
  exact ⟨b,hbk hm.symm,rfl,hLa⟩
theorem m_ldQ (s:Sim w G h) (hn:h≠[]) {e:Env} {a:Act} (he:EnvRel w G (dom h) e a) {o:Oper} {t:TypeId} {x:Operand} {y:Opd} (ho:o.op=.load t x) (hx:cOpd x=some y)
  (hsh:shapeOf P t=some (false,1)) {v:AV} {h':Heap} (hev:ldQ (y.ev e) h=some (.val v h')):MemOk P w G h a o v h':=by
 have hr:=opd_rel he hx
 unfold ldQ at hev
 split at hev
 case h_2=>cases hev
 rename_i la n sz i k hye
 rw [hye] at hr
 split at hev
 case h_2=>cases hev
 rename_i t0 s0 k0 ti si out es hb
 split at hev
 case isFalse=>cases hev
 rename_i cc
 obtain ⟨c1,rfl,rfl⟩:=cc
 split at hev
 case h_2=>cases hev
 rename_i u hu
 have hB:=s.blk la _ hb
 have hlt:=(List.getElem?_eq_some_iff.1 hu).1
 have hgd:es.getD i .top=u:=by simp [List.getD_eq_getElem?_getD,hu]
 obtain ⟨hAS,hk,hsi,hT⟩:=hB
 have hul:u.cells.length=sz:=by
  rcases hAS.2 with ⟨_,h2⟩ | ⟨b,c,_,_,_,_,_,_,h7,_⟩
  ·rw [h2] at hlt;simp at hlt
  ·have:=(h7 i hlt).1;rwa [hgd] at this
 have hload:=load_arr (P:=P) hr hAS c1 hu hsh (by decide) (getE_cell (by rw [hul];exact hk))
 split at hev
 ·rename_i hnil
  injection hev with hev
  injection hev with e1 e2
  subst e1;subst e2
  rw [hnil] at hload
  obtain ⟨r,k1,k2⟩:=hload
  exact ⟨.value r,r,w,G,by simp [execOp,ho,k1],.inl rfl,s,Goes.refl w G h,k2⟩
 ·rename_i q ks hlst
  split at hev
  case isFalse=>cases hev
  rename_i hout
  injection hev with hev
  injection hev with e1 e2
  subst e1;subst e2
  obtain ⟨b,hbk,hxv,hLa⟩:=len_at hr (by rw [←c1];exact hAS.1)
  obtain ⟨c,hbc,hcs⟩:∃ c,w.heap[b]?=some (.cells c t0 (0,0))∧es.length * sz≤c.size:=by
   rcases hAS.2 with ⟨h1,_⟩ | ⟨b2,c,h1,h2,h3,_,h5,_⟩
   ·rw [hbk] at h1;cases h1
   ·rw [hbk] at h1;injection h1 with h1;subst h1
    exact ⟨c,h2,by rw [h3];exact Nat.mul_le_mul_right _ h5⟩
  obtain ⟨b',cap,c',t1,t2,t3,t4,t5,t6,t7,t8⟩:=hT b c i q ks hbk hbc hlt hout (by rw [hgd];exact hlst)
  have hcell:w.cell? ⟨b,i * sz+k,none⟩=some (.slice (some ⟨b',0,none⟩) (ks.length+1) cap):=by
   rw [cells_get hbc (Nat.lt_of_lt_of_le (idx_lt hlt hk) hcs),t1]
  have hA:=run_isAgg hsh w
  have hrun:(Instr.loadAt t (a.eval x)).run P w=.ok (.slice (some ⟨b',0,none⟩) (ks.length+1) cap) w:=by
   rw [hxv]
   have:(loadVar t ⟨b,i * sz+k,none⟩).run P w=.ok (.slice (some ⟨b',0,none⟩) (ks.length+1) cap) w:=by
    simp only [loadVar,Sem.run_bind,hA,Result.andThen,Bool.false_eq_true,if_false]
    exact run_load_some hcell
   simp [Instr.loadAt,Instr.sureAddr,this]
  let G1:Gm:={ G with tl:=fun x=>if x=b' then none else G.tl x }
  have hI1:ImmKept w G w G1:=fun _ _ hi=>⟨hi,rfl⟩
  have hfree:∀ q,dom h q→G.blk q≠some b':=(s.prv b' _ t2).2
  have S1:Sim w G1 (hset h la (.arq t0 sz k ti si (i :: out) es)):=by
   refine ⟨fun a' B' eB=>?_,fun p q r hp hq ep eq=>?_,s.imm,fun r z hz=>?_⟩
   ·rw [hget_hset] at eB
    have hAg:∀ z,domTo h a'.1 z→domTo (hset h la (.arq t0 sz k ti si (i :: out) es)) a'.1 z∧Agree G G1 z:=fun z hz=>⟨⟨hz.1,(dom_hset h la z _).2 hz.2⟩,.inl ⟨rfl,rfl,rfl⟩⟩
    by_cases ca:a'=la∧dom h la
    ·rw [if_pos ca] at eB
     injection eB with eB
     subst eB
     obtain ⟨rfl,_⟩:=ca
     refine ⟨hAS.kept hI1 ⟨rfl,rfl,rfl⟩ (fun _ _=>rfl) fun _ _ _ hi=>hi,hk,hsi,fun b2 c2 j q2 ks2 e1 e2 e3 e4 e5=>?_⟩
     have hji:j≠i:=fun e=>by subst e;simp at e4
     obtain ⟨b3,cap3,c3,l1,l2,l3,l4,l5,l6,l7,l8⟩:=hT b2 c2 j q2 ks2 e1 e2 e3 (by simp only [List.contains_cons,Bool.or_eq_false_iff] at e4;exact e4.2) e5
     have hb3:b3≠b':=fun e=>by rw [e,t2] at l2;injection l2 with l2;injection l2 with _ l2;exact hji l2.symm
     exact ⟨b3,cap3,c3,l1,by show (if b3=b' then none else G.tl b3)=_;rw [if_neg hb3];exact l2,l3,l4,l5,l6,l7,fun p hp=>⟨(l8 p hp).1,fun p' hp'=>⟨((l8 p hp).2 p' hp').1,((l8 p hp).2 p' hp').2.mono hI1 fun _ e=>e.elim⟩⟩⟩
    ·rw [if_neg ca] at eB
     have hne:a'≠la:=fun e=>ca ⟨e,hLa⟩
     refine (s.blk a' B' eB).kept hI1 hAg ⟨rfl,rfl,rfl⟩ (fun _ _=>rfl) (fun _ _ _ hi=>hi) fun b2 j hj=>⟨?_,rfl,fun _ hi=>hi⟩
     have hb2:b2≠b':=fun e=>by rw [e,t2] at hj;injection hj with hj;injection hj with hj;exact hne hj.symm
     show (if b2=b' then none else G.tl b2)=_
     rw [if_neg hb2];exact hj
   ·rw [dom_hset] at hp hq
    exact s.inj p q r hp hq ep eq
   ·have hz':(if r=b' then none else G.tl r)=some z:=hz
    split at hz'
    ·cases hz'
    ·exact ⟨(s.prv r z hz').1,fun q hq=>(s.prv r z hz').2 q ((dom_hset h la q _).1 hq)⟩
  have hn1:=hset_ne hn la (.arq t0 sz k ti si (i :: out) es)
  have hnx:=hnext_hset h la (.arq t0 sz k ti si (i :: out) es)
  have hfr:¬ Held G1 (hset h la (.arq t0 sz k ti si (i :: out) es)) b':=fun hh=>by
   rcases hh with ⟨q,hq,e⟩ | hh
   ·exact hfree q ((dom_hset h la q _).1 hq) e
   ·exact hh (by show (if b'=b' then none else G.tl b')=none;simp)
  have S2:=S1.new_ (w':=w) (B:=.arr ti si true (q :: ks)) (b:=some b') (n:=some (ks.length+1)) (c:=cap) hn1 (Nat.le_refl _) (fun _ _=>rfl) (fun k hk=>by injection hk with hk;subst hk;exact hfr) (by
   refine ⟨by simp [Gm.at_],.inr ⟨b',c',by simp [Gm.at_],t3,by simpa [Gm.at_] using t4,hsi,by simpa [Gm.at_] using t5,by simpa [Gm.at_] using t6,fun j hj=>⟨(t8 j (by simpa using hj)).1,fun j' hj'=>⟨((t8 j (by simpa using hj)).2 j' hj').1,((t8 j (by simpa using hj)).2 j' hj').2.mono (fun _ _ hi=>⟨hi,rfl⟩) fun _ e=>e.elim⟩⟩,fun p hp=>⟨rfl,?_⟩⟩⟩
   simpa using t7 p hp)
  rw [hnx] at S2
  have hne:∀ q,dom h q→q≠hnext h:=fun q hq e=>by rw [e] at hq;unfold dom at hq;rw [hnext_fresh h] at hq;cases hq
  refine ⟨.value _,_,w,_,by simp only [execOp,ho,Sem.run_bind,hrun,Result.andThen];rfl,.inl rfl,S2,?_,?_⟩
  ·refine ⟨rfl,rfl,rfl,Nat.le_refl _,fun _ _ _=>rfl,fun r hr _=>?_,fun _ _ hi=>⟨hi,rfl⟩,fun z hz=>⟨?_,.inl ?_⟩,by rw [hnew_length,hset_length],?_,fun _ _ _ _ hi=>hi⟩
   ·rcases hr with ⟨z,hz,ez⟩ | hr
    ·rw [dom_hnew hn1,hnx,dom_hset] at hz
     by_cases cz:z=hnext h
     ·have:b'=r:=by simpa [Gm.at_,cz] using ez
      subst this
      exact .inr (by rw [t2];simp)
     ·exact .of (hz.resolve_left cz) (by simpa [Gm.at_,cz,G1] using ez)
    ·refine .inr fun e0=>hr ?_
     show (if r=b' then none else G.tl r)=none
     rw [e0];simp
   ·rw [dom_hnew hn1,dom_hset];exact .inr hz
   ·have:=hne z hz
    simp [Gm.at_,this,G1]
   ·have h1:=hlen_hnew (hset h la (.arq t0 sz k ti si (i :: out) es)) (.arr ti si true (q :: ks))
    rw [hlen_hset] at h1
    exact h1
  ·refine .own _ _ _ (ks.length+1) _ (by rw [dom_hnew hn1,hnx];exact .inl rfl) (by simp [Gm.at_]) (Nat.le_refl _) (.inr ⟨b',cap,rfl⟩) fun _=>?_
   simp [ownVal,Gm.at_]
 ·cases hev
theorem m_stQ (s:Sim w G h) {e:Env} {a:Act} (he:EnvRel w G (dom h) e a) {o:Oper} {t:TypeId} {A X:Operand} {A' X':Opd} (ho:o.op=.store t A X)
  (hA:cOpd A=some A') (hX:cOpd X=some X') (hsh:shapeOf P t=some (false,1)) {h':Heap} (hev:stQ (A'.ev e) (X'.ev e) h=some h'):MemOk P w G h a o (.tup []) h':=by
 have hrA:=opd_rel he hA
 have hrX:=opd_rel he hX
 unfold stQ at hev
 split at hev
 case h_2=>cases hev
 rename_i la n sz i k lb m hAe hXe
 rw [hAe] at hrA
 rw [hXe] at hrX
 split at hev
 case h_2=>cases hev
 rename_i t0 s0 k0 ti si out es t1 s1 vw ks hba hbb
 split at hev
 case isFalse=>cases hev
 rename_i cc
 obtain ⟨c1,rfl,rfl,c4,c5,rfl,rfl⟩:=cc
 split at hev
 case h_2=>cases hev
 rename_i u hu
 split at hev
 case h_2=>cases hev
 rename_i u' hu'
 injection hev with hev
 subst hev
 obtain ⟨⟨hl,hd⟩,hk,hsi,hT⟩:=s.blk la _ hba
 obtain ⟨hl2,hd2⟩:=s.blk lb _ hbb
 have hdb:dom h lb:=dom_of hbb
 have hne:la≠lb:=fun e=>by rw [e,hbb] at hba;cases hba
 obtain ⟨b,hbk,hpx,hLa⟩:=len_at hrA (by rw [←c1];exact hl)
 have hlt:=(List.getElem?_eq_some_iff.1 hu).1
 have hgd:es.getD i .top=u:=by simp [List.getD_eq_getElem?_getD,hu]
 obtain ⟨c,hbc,hcs,h5,h6,h7,h8⟩:∃ c,w.heap[b]?=some (.cells c t0 (0,0))∧c.size=G.cap la * sz∧es.length≤G.cap la∧G.cap la≤maxLen ∧
   (∀ i,i < es.length→(es.getD i .top).cells.length=sz∧∀ j,j < sz→(c.getD (i * sz+j) undef).oneCell'=true∧VRel w G NoLoc ((es.getD i .top).cells.getD j .top) (c.getD (i * sz+j) undef))∧(∀ o,¬ G.imm b o):=by
  rcases hd with ⟨h1,_⟩ | ⟨b2,c,h1,h2,h3,_,h5,h6,h7,h8⟩
  ·rw [hbk] at h1;cases h1
  ·rw [hbk] at h1;injection h1 with h1;subst h1
   exact ⟨c,h2,h3,h5,h6,h7,fun o hi=>by have:=(h8 o hi).1;cases this⟩
 obtain ⟨B,cB,g1,g2,g3,g5,g6,g7,g8⟩:∃ B cB,G.blk lb=some B∧w.heap[B]?=some (.cells cB t1 (0,0))∧cB.size=G.cap lb * s1∧ks.length≤G.cap lb∧G.cap lb≤maxLen ∧
   (∀ i,i < ks.length→(ks.getD i .top).cells.length=s1∧∀ j,j < s1→(cB.getD (i * s1+j) undef).oneCell'=true∧VRel w G NoLoc ((ks.getD i .top).cells.getD j .top) (cB.getD (i * s1+j) undef))∧(∀ o,G.imm B o→o < ks.length * s1):=by
  rcases hd2 with ⟨_,h2⟩ | ⟨b2,c,h1,h2,h3,_,h5,h6,h7,h8⟩
  ·rw [h2] at c4;simp at c4;omega
  ·exact ⟨b2,c,h1,h2,h3,h5,h6,h7,fun o hi=>(h8 o hi).2⟩
 have hbB:b≠B:=fun e=>hne (s.inj la lb b hLa hdb hbk (by rw [e];exact g1))
 obtain ⟨hxv,hLb⟩:a.eval X=.slice (some ⟨B,0,none⟩) m (G.cap lb)∧True:=by
  generalize a.eval X=x at hrX
  cases hrX with
  | own _ _ _ m2 _ _ hm2 _ _ hx=>
   rw [hl2] at hm2
   injection hm2 with hm2
   refine ⟨?_,trivial⟩
   rw [hx (by omega)]
   unfold ownVal
   rw [g1]
 have hul:u.cells.length=sz:=by have:=(h7 i hlt).1;rwa [hgd] at this
 have hfit:i * sz+k+1≤c.size:=by
  have:=idx_lt hlt hk
  have h1:es.length * sz≤G.cap la * sz:=Nat.mul_le_mul_right _ h5
  omega
 have hvc:CellsRel w G (dom h) (AV.own lb m).cells (a.eval X).cells:=hrX.cellsRel (by simp [AV.cells])
 have hrun0:=run_store_cells (P:=P) (k:=i * sz+k) hvc hbc (by simpa [AV.cells] using hfit) hsh rfl
 have hxc:(a.eval X).cells=#[a.eval X]:=by rw [hxv];rfl
 obtain ⟨c2,hc2⟩:∃ c2:Array Value,c2=(c.toList.take (i * sz+k)++(a.eval X).cells.toList++c.toList.drop (i * sz+k+(AV.own lb m).cells.length)).toArray:=⟨_,rfl⟩
 rw [←hc2] at hrun0
 have hrun:(execOp a.eval o).run P w=.ok .skip (w.setRow b c2):=by
  have:(Instr.storeAt t (a.eval A) (a.eval X)).run P w=.ok () (w.setRow b c2):=by
   rw [hpx]
   simpa [Instr.storeAt,Instr.sureAddr] using hrun0
  simp [execOp,ho,this]
 have hl1:(a.eval X).cells.toList.length=1:=by rw [hxc];rfl
 have hcl:=Array.length_toList (xs:=c)
 have hc2s:c2.size=c.size:=by
  rw [hc2]
  simp only [List.size_toArray,AV.cells,List.length_singleton]
  rw [splice_len _ _ _ _ hl1 (by omega)]
  exact hcl
 have hc2g:∀ J,c2.getD J undef=if J=i * sz+k then a.eval X else c.getD J undef:=fun J=>by
  rw [hc2,toArray_getD]
  simp only [AV.cells,List.length_singleton]
  rw [splice_get _ _ _ _ _ _ hl1 (by omega),getD_toList]
  by_cases e:J=i * sz+k
  ·subst e
   rw [if_pos (by omega),if_pos rfl,hxc]
   simp
  ·rw [if_neg (by omega),if_neg e,getD_toList]
 have hw:∀ r,r≠b→(w.setRow b c2).heap[r]?=w.heap[r]?:=fun r hr=>setRow_other w b r _ hr
 have hwb:(w.setRow b c2).heap[b]?=some (.cells c2 t0 (0,0)):=setRow_get hbc c2
 have hws:(w.setRow b c2).heap.size=w.heap.size:=by simp
 obtain ⟨hcu,hfu⟩:=setE_cells hu' (by simp [AV.cells])
 rw [show (AV.lst ks).cells=[.lst ks] from rfl] at hcu hfu
 simp only [List.length_singleton] at hcu hfu
 have hu'l:u'.cells.length=sz:=by rw [hcu,splice_len u.cells [.lst ks] k 1 rfl hfu,hul]
 have hu'g:∀ j,u'.cells.getD j .top=if j=k then .lst ks else u.cells.getD j .top:=fun j=>by
  rw [hcu,splice_get .top u.cells [.lst ks] k 1 j rfl hfu]
  by_cases e:j=k
  ·subst e
   rw [if_pos (by omega),if_pos rfl]
   simp
  ·rw [if_neg (by omega),if_neg e]
 let G':Gm:={ blk:=fun x=>if x=lb then none else G.blk x,len:=fun x=>if x=lb then some (m+1) else G.len x,cap:=G.cap,imm:=fun r p=>G.imm r p∨(r=B∧p < ks.length * s1),tl:=fun x=>if x=B then some (la,i) else G.tl x }
 have hI:ImmKept w G (w.setRow b c2) G':=fun r p hi=>⟨.inl hi,World.cell?_of_block (hw r fun e=>by subst e;exact h8 p hi)⟩
 have hAg:∀ z,dom h z→Agree G G' z:=fun z hz=>by
  by_cases cz:z=lb
  ·subst cz
   exact .inr ⟨m,m+1,by rw [hl2,c4],by simp [G'],by omega⟩
  ·exact .inl (by simp [G',cz])
 have hdom:∀ z,dom (hset (hset h la (.arq t0 sz k t1 s1 (out.filter fun j=>!(j == i)) (es.set i u'))) lb .dead) z↔dom h z:=fun z=>by rw [dom_hset,dom_hset]
 have hg2:∀ z,hget (hset (hset h la (.arq t0 sz k t1 s1 (out.filter fun j=>!(j == i)) (es.set i u'))) lb .dead) z =
   if z=lb then some .dead else if z=la then some (.arq t0 sz k t1 s1 (out.filter fun j=>!(j == i)) (es.set i u')) else hget h z:=fun z=>by
  rw [hget_hset,hget_hset]
  by_cases cz:z=lb
  ·rw [if_pos ⟨cz,(dom_hset _ _ _ _).2 hdb⟩,if_pos cz]
  ·rw [if_neg (fun hh=>cz hh.1),if_neg cz]
   by_cases cy:z=la
   ·rw [if_pos ⟨cy,hLa⟩,if_pos cy]
   ·rw [if_neg (fun hh=>cy hh.1),if_neg cy]
 have hks:ks≠[]:=fun e=>by rw [e] at c4;simp at c4;omega
 have hlst:∀ L,VRel (w.setRow b c2) G' L (.lst ks) (a.eval X):=fun L=>by
  rw [hxv,←c4]
  refine .lst _ ks B 0 _ s1 (fun p q=>cB.getD (p * s1+q) undef) g5 (fun p hp=>(g7 p hp).1) (fun p q hp hq=>⟨?_,.inr ⟨rfl,?_⟩,((g7 p hp).2 q hq).1⟩) fun p q hp hq=>((g7 p hp).2 q hq).2.mono hI fun _ e=>e.elim
  ·rw [Nat.zero_add]
   refine cells_get ((hw B (Ne.symm hbB)).trans g2) ?_
   rw [g3]
   exact Nat.lt_of_lt_of_le (idx_lt hp hq) (Nat.mul_le_mul_right _ g5)
  ·rw [Nat.zero_add]
   exact idx_lt hp hq
 have hone:(a.eval X).oneCell'=true:=by rw [hxv];rfl
 refine ⟨.skip,undef,w.setRow b c2,G',hrun,.inr ⟨rfl,rfl⟩,⟨fun z Z hz=>?_,fun p q r hp hq ep eq=>?_,fun r p hi=>?_,fun r z hz=>?_⟩,⟨rfl,rfl,rfl,by rw [hws];exact Nat.le_refl _,fun r hr hh=>hw r fun e=>by subst e;exact hh (.of hLa hbk),fun r hh hr=>?_,hI,fun z hz=>⟨(hdom z).2 hz,hAg z hz⟩,by rw [hset_length,hset_length],by rw [hlen_hset,hlen_hset];exact Nat.le_refl _,fun r p hr hh hi=>?_⟩,.tup _ _ _ rfl fun i hi=>by simp at hi⟩
 ·
  rw [hg2] at hz
  by_cases cz:z=lb
  ·rw [if_pos cz] at hz
   injection hz with hz
   subst hz
   intro r hr
   simp [G',cz] at hr
  ·rw [if_neg cz] at hz
   by_cases cy:z=la
   ·rw [if_pos cy] at hz
    injection hz with hz
    subst hz
    subst cy
    have hgs:∀ i',i' < es.length→(es.set i u').getD i' .top=if i=i' then u' else es.getD i' .top:=fun i' hi'=>by
     simp only [List.getD_eq_getElem?_getD,List.getElem?_set]
     by_cases e:i=i'
     ·simp [e,hi']
     ·simp [e]
    have hbG:G'.blk z=some b:=by simp [G',cz,hbk]
    refine ⟨⟨by rw [List.length_set];simpa [G',cz] using hl,.inr ⟨b,c2,hbG,hwb,by rw [hc2s,hcs],by omega,by rw [List.length_set];exact h5,h6,fun i' hi'=>?_,fun p hp=>?_⟩⟩,hk,hsi,fun b2 d i' q ks2 e1 e2 e3 e4 e5=>?_⟩
    ·rw [List.length_set] at hi'
     rw [hgs i' hi']
     refine ⟨?_,fun j hj=>?_⟩
     ·split
      ·exact hu'l
      ·exact (h7 i' hi').1
     ·rw [hc2g]
      by_cases e:i' * sz+j=i * sz+k
      ·obtain ⟨rfl,rfl⟩:=(idx_eq hj hk).1 e
       rw [if_pos rfl,if_pos rfl,hu'g,if_pos rfl]
       exact ⟨hone,hlst _⟩
      ·rw [if_neg e]
       obtain ⟨k1,k2⟩:=(h7 i' hi').2 j hj
       refine ⟨k1,?_⟩
       by_cases e2:i=i'
       ·subst e2
        rw [if_pos rfl,hu'g,if_neg (fun e3=>e (by rw [e3]))]
        rw [hgd] at k2
        exact k2.mono hI fun _ e=>e.elim
       ·rw [if_neg e2]
        exact k2.mono hI fun _ e=>e.elim
    ·rcases hp with hp | ⟨hp,_⟩
     ·exact absurd hp (h8 p)
     ·exact absurd hp hbB
    ·rw [hbG] at e1
     injection e1 with e1
     subst e1
     rw [hwb] at e2
     injection e2 with e2
     injection e2 with e2
     subst e2
     rw [List.length_set] at e3
     rw [hgs i' e3] at e5
     rw [hc2g]
     by_cases e:i=i'
     ·subst e
      rw [if_pos rfl,hu'g,if_pos rfl] at e5
      injection e5 with e5
      rw [if_pos rfl,hxv]
      have hkl:ks2.length+1=m:=by rw [←c4,e5];rfl
      refine ⟨B,G.cap lb,cB,by rw [hkl],by simp [G'],(hw B (Ne.symm hbB)).trans g2,g3,by rw [hkl,←c4];exact g5,g6,fun p hp=>?_,fun j hj=>?_⟩
      ·rw [hkl,←c4]
       rcases hp with hp | ⟨_,hp⟩
       ·exact g8 p hp
       ·exact hp
      ·rw [←e5]
       have hj':j < ks.length:=by omega
       exact ⟨(g7 j hj').1,fun j' hj2=>⟨((g7 j hj').2 j' hj2).1,((g7 j hj').2 j' hj2).2.mono hI fun _ e=>e.elim⟩⟩
     ·rw [if_neg e] at e5
      rw [if_neg (fun e2=>e ((idx_eq hk hk).1 e2).1.symm)]
      have hout:out.contains i'=false:=by
       cases hq:out.contains i' with
       | false=>rfl
       | true=>
        exfalso
        rw [List.contains_iff_mem] at hq
        have:(out.filter fun j=>!(j == i)).contains i'=true:=by
         rw [List.contains_iff_mem]
         exact List.mem_filter.2 ⟨hq,by simpa using fun e2=>e (Eq.symm e2)⟩
        rw [this] at e4
        cases e4
      obtain ⟨b3,cap3,c3,l1,l2,l3,l4,l5,l6,l7,l8⟩:=hT b c i' q ks2 hbk hbc e3 hout e5
      have hb3:b3≠B:=fun e2=>(s.prv b3 _ l2).2 lb hdb (by rw [e2];exact g1)
      have hb3b:b3≠b:=fun e2=>(s.prv b3 _ l2).2 z hLa (by rw [e2];exact hbk)
      exact ⟨b3,cap3,c3,l1,by simp [G',hb3,l2],(hw b3 hb3b).trans l3,l4,l5,l6,fun p hp=>l7 p (hp.resolve_right fun hh=>hb3 hh.1),fun p hp=>⟨(l8 p hp).1,fun p' hp'=>⟨((l8 p hp).2 p' hp').1,((l8 p hp).2 p' hp').2.mono hI fun _ e=>e.elim⟩⟩⟩
   ·rw [if_neg cy] at hz
    have hdz:=dom_of hz
    refine (s.blk z Z hz).kept hI (fun y hy=>⟨⟨hy.1,(hdom y).2 hy.2⟩,hAg y hy.2⟩) (by simp [G',cz]) (fun r hr=>hw r fun e=>by subst e;exact cy (s.inj z la r hdz hLa hr hbk)) (fun r p hr hi=>?_) fun r i' hr=>⟨?_,hw r fun e=>by subst e;exact (s.prv r _ hr).2 la hLa hbk,fun p hi=>?_⟩
    ·rcases hi with hi | ⟨rfl,_⟩
     ·exact hi
     ·exact absurd (s.inj z lb r hdz hdb hr g1) cz
    ·have:r≠B:=fun e2=>(s.prv r _ hr).2 lb hdb (by rw [e2];exact g1)
     simp [G',this,hr]
    ·rcases hi with hi | ⟨rfl,_⟩
     ·exact hi
     ·exact absurd g1 ((s.prv r _ hr).2 lb hdb)
 ·rw [hdom] at hp hq
  have ep':(if p=lb then none else G.blk p)=some r:=ep
  have eq':(if q=lb then none else G.blk q)=some r:=eq
  split at ep'
  ·cases ep'
  ·split at eq'
   ·cases eq'
   ·exact s.inj p q r hp hq ep' eq'
 ·rw [hws]
  rcases hi with hi | ⟨rfl,_⟩
  ·exact s.imm r p hi
  ·exact s.lt hdb g1
 ·rw [hws]
  have hz':(if r=B then some (la,i) else G.tl r)=some z:=hz
  split at hz'
  ·rename_i e
   subst e
   refine ⟨s.lt hdb g1,fun q hq e=>?_⟩
   rw [hdom] at hq
   have e':(if q=lb then none else G.blk q)=some r:=e
   split at e'
   ·cases e'
   ·rename_i hql
    exact hql (s.inj q lb r hq hdb e' g1)
  ·refine ⟨(s.prv r z hz').1,fun q hq e=>?_⟩
   rw [hdom] at hq
   have e':(if q=lb then none else G.blk q)=some r:=e
   split at e'
   ·cases e'
   ·exact (s.prv r z hz').2 q hq e'
 ·rcases hh with ⟨z,hz,e⟩ | hh
  ·rw [hdom] at hz
   have e':(if z=lb then none else G.blk z)=some r:=e
   split at e'
   ·cases e'
   ·exact .of hz e'
  ·by_cases e:r=B
   ·subst e;exact .of hdb g1
   ·refine .inr fun e0=>hh ?_
    show (if r=B then some (la,i) else G.tl r)=none
    rw [if_neg e];exact e0
 ·rcases hi with hi | ⟨rfl,_⟩
  ·exact hi
  ·exact absurd (.of hdb g1) hh
theorem toQ_ok (s:Sim w G h) {a:Loc} {n:Nat} {x:Value} (hv:VRel w G (dom h) (.own a n) x) {t:TypeId} {sz k:Nat} {ti:TypeId} {si:Nat} {es:List AV} (hb:hget h a=some (.arr t sz false es))
  (hsi:0 < si) (hk:k < sz) (hbare:bareK k es=true):Sim w G (hset h a (.arq t sz k ti si [] es))∧Goes w G h w G (hset h a (.arq t sz k ti si [] es))∧VRel w G (dom (hset h a (.arq t sz k ti si [] es))) (.own a n) x:=by
 have hda:=dom_of hb
 have hg:=Goes.update (w:=w) (w':=w) (G:=G) (G':=G) (B:=.arq t sz k ti si [] es) hda rfl rfl rfl (Nat.le_refl _) (fun _ _ _=>rfl) (fun _ _=>⟨rfl,rfl,rfl⟩) (Agree.refl G a) (ImmKept.refl w G) (fun _ hk=>.inl hk) (fun _ _ hk=>.inl hk)
 refine ⟨s.update hda (Nat.le_refl _) (fun _ _ _=>rfl) (fun _ _=>⟨rfl,rfl,rfl⟩) (Agree.refl G a) (ImmKept.refl w G) (fun _ _ hk=>.inl hk) (fun _ hk=>.inl hk) ⟨s.blk a _ hb,hk,hsi,fun b c i q ks _ _ hi _ hq=>?_⟩,hg,hv.along hg⟩
 rw [bareK_get hbare hi] at hq
 cases hq
theorem toQ_mem {a:Act} {o:Oper} {r:Option Out} {k:Nat} {ti:TypeId} {si:Nat} (hr:∀ v h',r=some (.val v h')→MemOk P w G h a o v h') {v:AV} {h':Heap} (hev:toQ k ti si r=some (.val v h')):MemOk P w G h a o v h':=by
 unfold toQ at hev
 split at hev
 case h_2=>cases hev
 rename_i la n h1
 split at hev
 case h_2=>cases hev
 rename_i t sz es hb
 split at hev
 case isFalse=>cases hev
 rename_i cc
 obtain ⟨c1,c2,c3,c4⟩:=cc
 injection hev with hev
 injection hev with e1 e2
 subst e1;subst e2
 obtain ⟨nx,x,w',G',k1,k2,k3,k4,k5⟩:=hr _ _ rfl
 obtain ⟨l1,l2,l3⟩:=toQ_ok k3 k5 hb c1 c2 c4 (ti:=ti)
 exact ⟨nx,x,w',G',k1,k2,l1,k4.trans l2,l3⟩
theorem m_mkSQ (s:Sim w G h) (hn:h≠[]) {e:Env} {a:Act} (he:EnvRel w G (dom h) e a) {o:Oper} {t el:TypeId} {i:TypeInfo} {z:AV} {l c:Operand} {l' c':Opd} (ho:o.op=.makeSlice t l c)
  (hu:P.underlying t=some (.slice el)) (hi:P.info? el=some i) (hz:zeroOf P el=some z) (hsz:0 < i.size) (hl:cOpd l=some l') (hc:cOpd c=some c') {ti:TypeId} {si:Nat}
  {K:Cfg} {O:Orc} {v:AV} {h':Heap} (hev:evM K O (.mkSQ el i.size i.bytes z l' c' ti si) e h=some (.val v h')):MemOk P w G h a o v h':=by
 simp only [evM] at hev
 split at hev
 ·rename_i kl n kc m hL hC
  split at hev
  ·rename_i cc
   refine toQ_mem (fun v h1 h2=>?_) hev
   refine m_mkS s hn he ho hu hi hz hsz hl hc (K:=K) (O:=O) ?_
   simp only [evM,hL,hC,if_pos cc]
   exact h2
  ·cases hev
 ·cases hev
theorem m_appQ (s:Sim w G h) (hn:h≠[]) {e:Env} {a:Act} (he:EnvRel w G (dom h) e a) {o:Oper} {c:Call} {t el:TypeId} {i:TypeInfo} {z:AV} {S X:Operand} {S' X':Opd}
  (ho:o.op=.call c) (hc:c.callee=.builtin .append) (hargs:c.args.toList=[S,X]) (hS:cOpd S=some S') (hX:cOpd X=some X') (ht0:c.argTypes[0]?=some t) (ht1:c.argTypes[1]?=some t)
  (hu:P.underlying t=some (.slice el)) (hi:P.info? el=some i) (hz:zeroOf P el=some z) (hsz:0 < i.size) {k:Nat} {ti:TypeId} {si:Nat}
  {K:Cfg} {O:Orc} {v:AV} {h':Heap} (hev:evM K O (.appQ el i.size i.bytes k ti si S' X') e h=some (.val v h')):MemOk P w G h a o v h':=by
 have hrX:=opd_rel he hX
 have hrS:=opd_rel he hS
 obtain ⟨i',zv,hi',hzv,hzz,hzl⟩:=zero_parts hz
 rw [hi] at hi'
 injection hi' with hi';subst hi'
 have hzr:VRel w G (dom h) z zv:=by rw [hzz];exact vrel_ofV zv
 have hzs:zv.cells.size=i.size:=by rw [(hzr.cellsRel (by omega)).1,hzl]
 simp only [evM] at hev
 cases hel:elemsOf (X'.ev e) h with
 | none=>simp [hel] at hev
 | some news=>
  simp only [hel] at hev
  split at hev
  case isFalse=>cases hev
  rename_i hsd
  unfold appToQ at hev
  split at hev
  ·rename_i la n hSv
   rw [hSv] at hrS
   split at hev
   case h_2=>cases hev
   rename_i t' sz' k' ti' si' out es hb
   split at hev
   case isFalse=>cases hev
   rename_i cc
   obtain ⟨c1,c2,c3,rfl,rfl,rfl,rfl,rfl,c4,c5,c6⟩:=cc
   injection hev with hev
   injection hev with hev1 hev2
   subst hev1;subst hev2;subst c1
   obtain ⟨p,kc,flat,hxv,hfl,hpn,hcell⟩:=src_rel s hrX hel hsz hsd
   obtain ⟨⟨h0,hd⟩,hk,hsi,hT⟩:=s.blk la _ hb
   obtain ⟨b,cs,q1,q2,q3,q5,q6,q7,q8⟩:∃ b cs,G.blk la=some b∧w.heap[b]?=some (.cells cs t' (0,0))∧cs.size=G.cap la * i.size∧es.length≤G.cap la∧G.cap la≤maxLen ∧
     (∀ j,j < es.length→(es.getD j .top).cells.length=i.size∧∀ l,l < i.size→(cs.getD (j * i.size+l) undef).oneCell'=true∧VRel w G NoLoc ((es.getD j .top).cells.getD l .top) (cs.getD (j * i.size+l) undef))∧(∀ o,¬ G.imm b o):=by
    rcases hd with ⟨_,h2⟩ | ⟨b2,c,h1,h2,h3,_,h5,h6,h7,h8⟩
    ·rw [h2] at c4;simp at c4
    ·exact ⟨b2,c,h1,h2,h3,h5,h6,h7,fun o hi=>by have:=(h8 o hi).1;cases this⟩
   obtain ⟨hsx,hLa⟩:a.eval S=.slice (some ⟨b,0,none⟩) es.length (G.cap la)∧dom h la:=by
    generalize a.eval S=x at hrS
    cases hrS with
    | own _ _ _ m2 _ hL hm2 _ _ hx=>
     rw [h0] at hm2
     injection hm2 with hm2
     refine ⟨?_,hL⟩
     rw [hx hm2.symm]
     unfold ownVal
     rw [q1]
   have hcsl:es.length * i.size≤cs.size:=by rw [q3];exact Nat.mul_le_mul_right _ q5
   have hxf:Flat w G i.size es (cs.toList.take (es.length * i.size)):=Flat.of_arr hcsl q7 hsz
   obtain ⟨ad,rfl⟩:∃ ad,p=some ad:=by
    cases p with
    | none=>rw [hpn rfl] at c5;simp at c5
    | some ad=>exact ⟨ad,rfl⟩
   obtain ⟨w',g,cap,cur,hrun,hout⟩:=run_app (P:=P) (w:=w) (ty:=o.type) hu hi hzv hzs hsz (v:=.slice (some ⟨b,0,none⟩) es.length (G.cap la)) (n:=es.length) hxf.len
    (.inr (.inr ⟨b,G.cap la,cs,rfl,q2,q3,q5,q6,rfl⟩)) hfl.len (fun j u hj=>by
     obtain ⟨ad',e1,e2⟩:=hcell j u hj
     injection e1 with e1;subst e1
     exact e2) hfl.one c5 (k:=kc) c2 c3
   have hob:∀ r,(match Value.slice (some ⟨b,0,none⟩) es.length (G.cap la) with | .slice (some p) _ (_+1)=>some p.block | _=>none)=some r→r=b:=fun r hr=>by
    split at hr
    ·rename_i hsl
     injection hsl with e1 _ _
     injection e1 with e1
     injection hr with hr
     rw [←hr,←e1]
    ·cases hr
   have hgw:g=b∨w.heap.size≤g:=hout.which.imp (hob g) id
   have himm:∀ r q,G.imm r q→r≠g:=fun r q hq e=>by
    subst e
    rcases hgw with e1 | e1
    ·rw [e1] at hq;exact q8 q hq
    ·have:=s.imm _ _ hq;omega
   have hI:ImmKept w G w' (G.at_ la (some g) (some (es.length+news.length)) cap):=fun r q hq=>⟨hq,World.cell?_of_block (hout.other r (s.imm r q hq) (himm r q hq))⟩
   have hG:∀ a',a'≠la→(G.at_ la (some g) (some (es.length+news.length)) cap).blk a'=G.blk a'∧(G.at_ la (some g) (some (es.length+news.length)) cap).len a'=G.len a' ∧
     (G.at_ la (some g) (some (es.length+news.length)) cap).cap a'=G.cap a':=fun a' e=>by simp [Gm.at_,e]
   have hAg:Agree G (G.at_ la (some g) (some (es.length+news.length)) cap) la:=.inr ⟨es.length,es.length+news.length,h0,by simp [Gm.at_],by omega⟩
   have hbl:∀ r,r < w.heap.size→G.blk la≠some r→w'.heap[r]?=w.heap[r]?:=fun r hr1 hr2=>by
    refine hout.other r hr1 fun e=>?_
    subst e
    rcases hgw with e1 | e1
    ·exact hr2 (by rw [q1,e1])
    ·omega
   have hnw:∀ r,(G.at_ la (some g) (some (es.length+news.length)) cap).blk la=some r→G.blk la=some r∨w.heap.size≤r:=fun r hr=>by
    have:g=r:=by simpa [Gm.at_] using hr
    subst this
    rcases hgw with e1 | e1
    ·exact .inl (by rw [q1,e1])
    ·exact .inr e1
   have hgo:=Goes.update (B:=.arq t' i.size k' ti' si' out (es++news)) hLa hout.os hout.tape hout.output hout.size hbl hG hAg hI hnw (fun _ _ hk=>.inl hk)
   have hA:c.args=#[S,X]:=by rw [←Array.toArray_toList (xs:=c.args),hargs]
   refine ⟨.value (.slice (some ⟨g,0,none⟩) (es.length+news.length) cap),.slice (some ⟨g,0,none⟩) (es.length+news.length) cap,w',_,?_,.inl rfl,
    s.update hLa hout.size hbl hG hAg hI (fun _ _ hk=>.inl hk) hnw ?_,hgo,?_⟩
   ·have e1:Builtin.append_ c.argTypes o.type #[a.eval S,a.eval X]=Builtin.append_ #[t,t] o.type #[a.eval S,a.eval X]:=by
     unfold Builtin.append_
     simp only [ht0,ht1]
     rfl
    rw [←hsx,←hxv] at hrun
    simp only [execOp,ho,resolve,hc,hA,List.map_toArray,List.map_cons,List.map_nil,Sem.run_bind,Sem.run_pure,Result.andThen_ok,invoke,builtin,e1,hrun]
   ·have hAS:ASim w' (G.at_ la (some g) (some (es.length+news.length)) cap) la t' i.size false (es++news):=
     ⟨by simp [Gm.at_],.inr ⟨g,cur,by simp [Gm.at_],hout.here,by simpa [Gm.at_] using hout.rows,hsz,by simpa [Gm.at_] using hout.fits,by simpa [Gm.at_] using hout.most,
      ((hxf.append hfl).mono hI).arr (by rw [List.length_append];exact hout.take),fun q hk=>absurd rfl (himm g q hk)⟩⟩
    refine ⟨hAS,hk,hsi,fun b2 d j q ks e1 e2 e3 e4 e5=>?_⟩
    have hb2:g=b2:=by simpa [Gm.at_] using e1
    subst hb2
    rw [hout.here] at e2
    injection e2 with e2
    injection e2 with e2
    subst e2
    by_cases hj:j < es.length
    ·have e6:(es++news).getD j .top=es.getD j .top:=by simp only [List.getD_eq_getElem?_getD];rw [List.getElem?_append_left hj]
     rw [e6] at e5
     obtain ⟨b3,cap3,c3',l1,l2,l3,l4,l5,l6,l7,l8⟩:=hT b cs j q ks q1 q2 hj e4 e5
     have hJ:j * i.size+k' < es.length * i.size:=idx_lt hj hk
     have e7:cur.getD (j * i.size+k') undef=cs.getD (j * i.size+k') undef:=by
      rw [←getD_toList undef cur,←take_getD undef cur.toList ((es.length+news.length) * i.size) _ (by rw [Nat.add_mul];omega),hout.take]
      simp only [List.getD_eq_getElem?_getD]
      rw [List.getElem?_append_left (by rw [hxf.len];exact hJ),List.getElem?_take_of_lt hJ]
      simp [Array.getD_eq_getD_getElem?]
     have hb3:b3 < w.heap.size:=(s.prv b3 _ l2).1
     have hb3g:b3≠g:=fun e=>by
      rcases hgw with e1 | e1
      ·exact (s.prv b3 _ l2).2 la hLa (by rw [q1,e,e1])
      ·omega
     exact ⟨b3,cap3,c3',by rw [e7];exact l1,l2,(hout.other b3 hb3 hb3g).trans l3,l4,l5,l6,l7,fun p hp=>⟨(l8 p hp).1,fun p' hp'=>⟨((l8 p hp).2 p' hp').1,((l8 p hp).2 p' hp').2.mono hI fun _ e=>e.elim⟩⟩⟩
    ·exfalso
     rw [List.length_append] at e3
     have e6:(es++news).getD j .top=news.getD (j - es.length) .top:=by simp only [List.getD_eq_getElem?_getD];rw [List.getElem?_append_right (by omega)]
     rw [e6,bareK_get c6 (by omega)] at e5
     cases e5
   ·refine .own _ la _ (es.length+news.length) _ ((dom_hset h la la _).2 hLa) (by simp [Gm.at_]) (Nat.le_refl _) (.inr ⟨g,cap,rfl⟩) fun _=>?_
    simp [ownVal,Gm.at_]
  ·rename_i hSv
   refine toQ_mem (fun v h1 h2=>?_) hev
   refine m_app s hn he ho hc hargs hS hX ht0 ht1 hu hi hz hsz (K:=K) (O:=O) ?_
   simp only [evM,hel,if_pos hsd,hSv]
   exact h2
  ·cases hev
end Go.Ab
/-
  Owned slices whose elements may lead to places;a box in which one cell's slice is not written any more.
-/
namespace Go.Ab
open Go.RowKit
variable {P:Program} {w:World} {G:Gm} {h:Heap}
theorem asV_sim {L:Loc→Prop} {a:Loc} {B:Blk} {t:TypeId} {sz:Nat} {es:List AV} (hB:BSim w G L a B) (he:asV (some B)=some (t,sz,es)):VSim w G L a t sz es:=by
 cases B with
 | arv t' sz' es'=>
  simp only [asV,Option.some.injEq,Prod.mk.injEq] at he
  obtain ⟨rfl,rfl,rfl⟩:=he
  exact hB
 | arr t' sz' vw es'=>
  cases vw with
  | true=>cases he
  | false=>
   simp only [asV,Option.some.injEq,Prod.mk.injEq] at he
   obtain ⟨rfl,rfl,rfl⟩:=he
   obtain ⟨h0,hd⟩:=hB
   refine ⟨h0,?_⟩
   rcases hd with h1 | ⟨b,c,h1,h2,h3,h4,h5,h6,h7,h8⟩
   ·exact .inl h1
   ·exact .inr ⟨b,c,h1,h2,h3,h4,h5,h6,fun i hi=>⟨(h7 i hi).1,fun j hj=>⟨((h7 i hi).2 j hj).1,((h7 i hi).2 j hj).2.wider fun _ e=>e.elim⟩⟩,fun o ho=>by have:=(h8 o ho).1;cases this⟩
 | _=>cases he
theorem asV_get {a:Loc} {t:TypeId} {sz:Nat} {es:List AV} (he:asV (hget h a)=some (t,sz,es)):∃ B,hget h a=some B∧asV (some B)=some (t,sz,es):=by
 cases hb:hget h a with
 | none=>rw [hb] at he;cases he
 | some B=>rw [hb] at he;exact ⟨B,rfl,he⟩
theorem storeToV_ok (s:Sim w G h) {p v:AV} {px vx:Value} (hp:VRel w G (dom h) p px) (hv:VRel w G (dom h) v vx) (hpos:0 < v.cells.length) {t:TypeId} {ag:Bool}
  (hsh:shapeOf P t=some (ag,v.cells.length)) {h':Heap} (hst:storeToV h p v=some h') :
  ∃ w',(Instr.storeAt t px vx).run P w=.ok () w'∧Sim w' G h'∧Goes w G h w' G h':=by
 have hvc:=hv.cellsRel hpos
 have hvl:vx.cells.toList.length=v.cells.length:=by rw [Array.length_toList];exact hvc.1
 unfold storeToV at hst
 split at hst
 case h_2=>cases hst
 rename_i a n sz i o
 split at hst
 case h_2=>cases hst
 rename_i tb s' es hb0
 obtain ⟨B0,hb,hbv⟩:=asV_get hb0
 split at hst
 case isFalse=>cases hst
 rename_i c0
 obtain ⟨hn,rfl,hlev⟩:=c0
 split at hst
 case h_2=>cases hst
 rename_i u hu
 split at hst
 case h_2=>cases hst
 rename_i u' hu'
 injection hst with hst;subst hst
 obtain ⟨hcells,hfit⟩:=setE_cells hu' hpos
 cases hp with
 | eptr _ a n sz i o m b hLa hm hle hbk=>
  obtain ⟨h0,hd⟩:=asV_sim (s.blk a _ hb) hbv
  have hmn:m=n:=by rw [hm] at h0;injection h0 with h0;omega
  have hbk:=hbk hmn
  have hlt:=(List.getElem?_eq_some_iff.1 hu).1
  have hgd:es.getD i .top=u:=by simp [List.getD_eq_getElem?_getD,hu]
  rcases hd with ⟨h1,h2⟩ | ⟨b',c,h1,h2,h3,h4,h5,h6,h7,h8⟩
  ·rw [hbk] at h1;cases h1
  ·rw [hbk] at h1
   injection h1 with h1;subst h1
   have hul:u.cells.length=sz:=by have:=(h7 i hlt).1;rwa [hgd] at this
   have hcap:i * sz+sz≤c.size:=by
    rw [h3]
    have:(i+1) * sz≤G.cap a * sz:=Nat.mul_le_mul_right _ (by omega)
    rwa [Nat.add_mul,Nat.one_mul] at this
   have hrun:=run_store_cells (P:=P) (k:=i * sz+o) hvc h2 (by omega) hsh rfl
   have hw:∀ k,k≠b→(w.setRow b (c.toList.take (i * sz+o)++vx.cells.toList++c.toList.drop (i * sz+o+v.cells.length)).toArray).heap[k]?=w.heap[k]?:=fun k hk=>setRow_other w b k _ hk
   have hI:ImmKept w G (w.setRow b (c.toList.take (i * sz+o)++vx.cells.toList++c.toList.drop (i * sz+o+v.cells.length)).toArray) G:=fun k q hi=>by
    refine ⟨hi,World.cell?_of_block (hw k fun e=>?_)⟩
    subst e
    exact h8 q hi
   have hA:∀ a,Agree G G a:=Agree.refl G
   refine ⟨_,by simpa [Instr.storeAt,Instr.sureAddr] using hrun,s.update hLa (by simp) (fun k _ hk=>hw k fun e=>hk (by rw [e];exact hbk)) (fun _ _=>⟨rfl,rfl,rfl⟩) (hA a) hI (fun _ _ hi=>.inl hi) (fun _ hk=>.inl hk) ?_,
    Goes.update hLa rfl rfl rfl (by simp) (fun k _ hk=>hw k fun e=>hk (by rw [e];exact hbk)) (fun _ _=>⟨rfl,rfl,rfl⟩) (hA a) hI (fun _ hk=>.inl hk) (fun _ _ hk=>.inl hk)⟩
   refine ⟨by rw [List.length_set];exact h0,.inr ⟨b,_,hbk,setRow_get h2 _,?_,h4,by rw [List.length_set];exact h5,h6,fun i' hi'=>?_,fun q hq=>h8 q hq⟩⟩
   ·simp only [List.size_toArray]
    rw [splice_len _ _ _ _ hvl (by have:=Array.length_toList (xs:=c);omega),Array.length_toList (xs:=c)]
    exact h3
   ·rw [List.length_set] at hi'
    have hg':(es.set i u').getD i' .top=if i=i' then u' else es.getD i' .top:=by
     simp only [List.getD_eq_getElem?_getD,List.getElem?_set]
     by_cases e:i=i'
     ·simp [e,hi']
     ·simp [e]
    have hul':u'.cells.length=sz:=by rw [hcells,splice_len _ _ _ _ rfl hfit,hul]
    refine ⟨?_,fun j hj=>?_⟩
    ·rw [hg']
     split
     ·exact hul'
     ·exact (h7 i' hi').1
    ·rw [toArray_getD,splice_get _ _ _ _ _ _ hvl (by have:=Array.length_toList (xs:=c);omega),hg']
     by_cases e:i=i'
     ·subst e
      rw [if_pos rfl,hcells,splice_get _ _ _ _ _ _ rfl hfit]
      by_cases cc:o≤j∧j < o+v.cells.length
      ·rw [if_pos cc,if_pos (by omega),getD_toList]
       obtain ⟨k1,k2⟩:=hvc.2 (j - o) (by omega)
       rw [show i * sz+j - (i * sz+o)=j - o by omega]
       refine ⟨k1,k2.goes hI (p:=fun q=>decide (q.1≤a.1)) ?_ fun q hq hpq=>⟨⟨by simpa using hpq,(dom_hset h a q _).2 hq⟩,hA q⟩⟩
       exact cells_refOk hlev (by omega)
      ·rw [if_neg cc,if_neg (by omega),getD_toList]
       obtain ⟨k1,k2⟩:=(h7 i hi').2 j hj
       rw [hgd] at k2
       exact ⟨k1,k2.mono hI fun q hq=>⟨⟨hq.1,(dom_hset h a q _).2 hq.2⟩,hA q⟩⟩
     ·rw [if_neg e]
      have hout:¬ (i * sz+o≤i' * sz+j∧i' * sz+j < i * sz+o+v.cells.length):=by
       rintro ⟨q1,q2⟩
       rcases Nat.lt_or_gt_of_ne e with q | q
       ·have:(i+1) * sz≤i' * sz:=Nat.mul_le_mul_right _ q
        rw [Nat.add_mul,Nat.one_mul] at this
        omega
       ·have:(i'+1) * sz≤i * sz:=Nat.mul_le_mul_right _ q
        rw [Nat.add_mul,Nat.one_mul] at this
        omega
      rw [if_neg hout,getD_toList]
      obtain ⟨k1,k2⟩:=(h7 i' hi').2 j hj
      exact ⟨k1,k2.mono hI fun q hq=>⟨⟨hq.1,(dom_hset h a q _).2 hq.2⟩,hA q⟩⟩
theorem m_stV (s:Sim w G h) (hn:h≠[]) {e:Env} {a:Act} (he:EnvRel w G (dom h) e a) {o:Oper} {t:TypeId} {A X:Operand} {A' X':Opd} {ag:Bool} {sz:Nat} (ho:o.op=.store t A X)
  (hA:cOpd A=some A') (hX:cOpd X=some X') (hsh:shapeOf P t=some (ag,sz)) (hsz:0 < sz) {K:Cfg} {O:Orc} {v:AV} {h':Heap}
  (hev:evM K O (.stV sz A' X') e h=some (.val v h')):MemOk P w G h a o v h':=by
 have hrX:=opd_rel he hX
 have hrA:=opd_rel he hA
 simp only [evM] at hev
 split at hev
 ·rename_i hl
  split at hev
  ·rename_i h2 hst
   injection hev with hev
   injection hev with e1 e2
   subst e1;subst e2
   obtain ⟨w',l1,l2,l3⟩:=storeToV_ok (P:=P) (t:=t) (ag:=ag) s hrA hrX (by omega) (by rw [hl];exact hsh) hst
   exact ⟨.skip,undef,w',G,by simp [execOp,ho,l1],.inr ⟨rfl,rfl⟩,l2,l3,.tup _ _ _ rfl fun i hi=>by simp at hi⟩
  ·cases hev
 ·cases hev
theorem toV_mem {a:Act} {o:Oper} {r:Option Out} (hr:∀ v h',r=some (.val v h')→MemOk P w G h a o v h') {v:AV} {h':Heap} (hev:toV r=some (.val v h')):MemOk P w G h a o v h':=by
 unfold toV at hev
 split at hev
 case h_2=>cases hev
 rename_i la n h1
 split at hev
 case h_2=>cases hev
 rename_i t sz es hb
 split at hev
 case isFalse=>cases hev
 rename_i cc
 injection hev with hev
 injection hev with e1 e2
 subst e1;subst e2
 obtain ⟨nx,x,w',G',k1,k2,k3,k4,k5⟩:=hr _ _ rfl
 have hda:=dom_of hb
 have hg:=Goes.update (w:=w') (w':=w') (G:=G') (G':=G') (B:=.arv t sz es) hda rfl rfl rfl (Nat.le_refl _) (fun _ _ _=>rfl) (fun _ _=>⟨rfl,rfl,rfl⟩) (Agree.refl G' la) (ImmKept.refl w' G') (fun _ hk=>.inl hk) (fun _ _ hk=>.inl hk)
 have hV:=asV_sim (k3.blk la _ hb) rfl
 refine ⟨nx,x,w',G',k1,k2,k3.update hda (Nat.le_refl _) (fun _ _ _=>rfl) (fun _ _=>⟨rfl,rfl,rfl⟩) (Agree.refl G' la) (ImmKept.refl w' G') (fun _ _ hk=>.inl hk) (fun _ hk=>.inl hk) ?_,k4.trans hg,k5.along hg⟩
 exact BSim.kept (B:=.arv t sz es) hV (ImmKept.refl w' G') (fun q hq=>⟨⟨hq.1,(dom_hset _ _ _ _).2 hq.2⟩,Agree.refl G' q⟩) ⟨rfl,rfl,rfl⟩ (fun _ _=>rfl) (fun _ _ _ hi=>hi) fun _ _ hx=>⟨hx,rfl,fun _ hi=>hi⟩
theorem m_mkSV (s:Sim w G h) (hn:h≠[]) {e:Env} {a:Act} (he:EnvRel w G (dom h) e a) {o:Oper} {t el:TypeId} {i:TypeInfo} {z:AV} {l c:Operand} {l' c':Opd} (ho:o.op=.makeSlice t l c)
  (hu:P.underlying t=some (.slice el)) (hi:P.info? el=some i) (hz:zeroOf P el=some z) (hsz:0 < i.size) (hl:cOpd l=some l') (hc:cOpd c=some c')
  {K:Cfg} {O:Orc} {v:AV} {h':Heap} (hev:evM K O (.mkSV el i.size i.bytes z l' c') e h=some (.val v h')):MemOk P w G h a o v h':=by
 simp only [evM] at hev
 split at hev
 ·rename_i kl n kc m hL hC
  split at hev
  ·rename_i cc
   refine toV_mem (fun v h1 h2=>?_) hev
   refine m_mkS s hn he ho hu hi hz hsz hl hc (K:=K) (O:=O) ?_
   simp only [evM,hL,hC,if_pos cc]
   exact h2
  ·cases hev
 ·cases hev
theorem m_appV (s:Sim w G h) (hn:h≠[]) {e:Env} {a:Act} (he:EnvRel w G (dom h) e a) {o:Oper} {c:Call} {t el:TypeId} {i:TypeInfo} {z:AV} {S X:Operand} {S' X':Opd}
  (ho:o.op=.call c) (hc:c.callee=.builtin .append) (hargs:c.args.toList=[S,X]) (hS:cOpd S=some S') (hX:cOpd X=some X') (ht0:c.argTypes[0]?=some t) (ht1:c.argTypes[1]?=some t)
  (hu:P.underlying t=some (.slice el)) (hi:P.info? el=some i) (hz:zeroOf P el=some z) (hsz:0 < i.size)
  {K:Cfg} {O:Orc} {v:AV} {h':Heap} (hev:evM K O (.appV el i.size i.bytes S' X') e h=some (.val v h')):MemOk P w G h a o v h':=by
 have hrX:=opd_rel he hX
 have hrS:=opd_rel he hS
 obtain ⟨i',zv,hi',hzv,hzz,hzl⟩:=zero_parts hz
 rw [hi] at hi'
 injection hi' with hi';subst hi'
 have hzr:VRel w G (dom h) z zv:=by rw [hzz];exact vrel_ofV zv
 have hzs:zv.cells.size=i.size:=by rw [(hzr.cellsRel (by omega)).1,hzl]
 simp only [evM] at hev
 cases hel:elemsOf (X'.ev e) h with
 | none=>simp [hel] at hev
 | some news=>
  simp only [hel] at hev
  split at hev
  case isFalse=>cases hev
  rename_i hsd
  unfold appToV at hev
  split at hev
  ·rename_i la n hSv
   rw [hSv] at hrS
   split at hev
   case h_2=>cases hev
   rename_i t' sz' es hb0
   obtain ⟨B0,hb,hbv⟩:=asV_get hb0
   split at hev
   case isFalse=>cases hev
   rename_i cc
   obtain ⟨c1,c4,rfl,rfl,c2,c3,c5⟩:=cc
   injection hev with hev
   injection hev with hev1 hev2
   subst hev1;subst hev2;subst c1
   obtain ⟨p,kc,flat,hxv,hfl,hpn,hcell⟩:=src_rel s hrX hel hsz hsd
   obtain ⟨h0,hd⟩:=asV_sim (s.blk la _ hb) hbv
   obtain ⟨b,cs,q1,q2,q3,q5,q6,q7,q8⟩:∃ b cs,G.blk la=some b∧w.heap[b]?=some (.cells cs t' (0,0))∧cs.size=G.cap la * i.size∧es.length≤G.cap la∧G.cap la≤maxLen ∧
     (∀ j,j < es.length→(es.getD j .top).cells.length=i.size∧∀ l,l < i.size→(cs.getD (j * i.size+l) undef).oneCell'=true∧VRel w G (domTo h la.1) ((es.getD j .top).cells.getD l .top) (cs.getD (j * i.size+l) undef))∧(∀ o,¬ G.imm b o):=by
    rcases hd with ⟨_,h2⟩ | ⟨b2,c,h1,h2,h3,_,h5,h6,h7,h8⟩
    ·rw [h2] at c4;simp at c4
    ·exact ⟨b2,c,h1,h2,h3,h5,h6,h7,h8⟩
   obtain ⟨hsx,hLa⟩:a.eval S=.slice (some ⟨b,0,none⟩) es.length (G.cap la)∧dom h la:=by
    generalize a.eval S=x at hrS
    cases hrS with
    | own _ _ _ m2 _ hL hm2 _ _ hx=>
     rw [h0] at hm2
     injection hm2 with hm2
     refine ⟨?_,hL⟩
     rw [hx hm2.symm]
     unfold ownVal
     rw [q1]
   have hcsl:es.length * i.size≤cs.size:=by rw [q3];exact Nat.mul_le_mul_right _ q5
   have hxl:(cs.toList.take (es.length * i.size)).length=es.length * i.size:=by simp;omega
   obtain ⟨ad,rfl⟩:∃ ad,p=some ad:=by
    cases p with
    | none=>rw [hpn rfl] at c5;simp at c5
    | some ad=>exact ⟨ad,rfl⟩
   obtain ⟨w',g,cap,cur,hrun,hout⟩:=run_app (P:=P) (w:=w) (ty:=o.type) hu hi hzv hzs hsz (v:=.slice (some ⟨b,0,none⟩) es.length (G.cap la)) (n:=es.length) hxl
    (.inr (.inr ⟨b,G.cap la,cs,rfl,q2,q3,q5,q6,rfl⟩)) hfl.len (fun j u hj=>by
     obtain ⟨ad',e1,e2⟩:=hcell j u hj
     injection e1 with e1;subst e1
     exact e2) hfl.one c5 (k:=kc) c2 c3
   have hob:∀ r,(match Value.slice (some ⟨b,0,none⟩) es.length (G.cap la) with | .slice (some p) _ (_+1)=>some p.block | _=>none)=some r→r=b:=fun r hr=>by
    split at hr
    ·rename_i hsl
     injection hsl with e1 _ _
     injection e1 with e1
     injection hr with hr
     rw [←hr,←e1]
    ·cases hr
   have hgw:g=b∨w.heap.size≤g:=hout.which.imp (hob g) id
   have himm:∀ r q,G.imm r q→r≠g:=fun r q hq e=>by
    subst e
    rcases hgw with e1 | e1
    ·rw [e1] at hq;exact q8 q hq
    ·have:=s.imm _ _ hq;omega
   have hI:ImmKept w G w' (G.at_ la (some g) (some (es.length+news.length)) cap):=fun r q hq=>⟨hq,World.cell?_of_block (hout.other r (s.imm r q hq) (himm r q hq))⟩
   have hG:∀ a',a'≠la→(G.at_ la (some g) (some (es.length+news.length)) cap).blk a'=G.blk a'∧(G.at_ la (some g) (some (es.length+news.length)) cap).len a'=G.len a' ∧
     (G.at_ la (some g) (some (es.length+news.length)) cap).cap a'=G.cap a':=fun a' e=>by simp [Gm.at_,e]
   have hAg:Agree G (G.at_ la (some g) (some (es.length+news.length)) cap) la:=.inr ⟨es.length,es.length+news.length,h0,by simp [Gm.at_],by omega⟩
   have hAgA:∀ q,Agree G (G.at_ la (some g) (some (es.length+news.length)) cap) q:=fun q=>by
    by_cases e:q=la
    ·rw [e];exact hAg
    ·exact .inl (hG q e)
   have hbl:∀ r,r < w.heap.size→G.blk la≠some r→w'.heap[r]?=w.heap[r]?:=fun r hr1 hr2=>by
    refine hout.other r hr1 fun e=>?_
    subst e
    rcases hgw with e1 | e1
    ·exact hr2 (by rw [q1,e1])
    ·omega
   have hnw:∀ r,(G.at_ la (some g) (some (es.length+news.length)) cap).blk la=some r→G.blk la=some r∨w.heap.size≤r:=fun r hr=>by
    have:g=r:=by simpa [Gm.at_] using hr
    subst this
    rcases hgw with e1 | e1
    ·exact .inl (by rw [q1,e1])
    ·exact .inr e1
   have hgo:=Goes.update (B:=.arv t' i.size (es++news)) hLa hout.os hout.tape hout.output hout.size hbl hG hAg hI hnw (fun _ _ hk=>.inl hk)
   have hA:c.args=#[S,X]:=by rw [←Array.toArray_toList (xs:=c.args),hargs]
   refine ⟨.value (.slice (some ⟨g,0,none⟩) (es.length+news.length) cap),.slice (some ⟨g,0,none⟩) (es.length+news.length) cap,w',_,?_,.inl rfl,
    s.update hLa hout.size hbl hG hAg hI (fun _ _ hk=>.inl hk) hnw ?_,hgo,?_⟩
   ·have e1:Builtin.append_ c.argTypes o.type #[a.eval S,a.eval X]=Builtin.append_ #[t,t] o.type #[a.eval S,a.eval X]:=by
     unfold Builtin.append_
     simp only [ht0,ht1]
     rfl
    rw [←hsx,←hxv] at hrun
    simp only [execOp,ho,resolve,hc,hA,List.map_toArray,List.map_cons,List.map_nil,Sem.run_bind,Sem.run_pure,Result.andThen_ok,invoke,builtin,e1,hrun]
   ·refine ⟨by simp [Gm.at_],.inr ⟨g,cur,by simp [Gm.at_],hout.here,by simpa [Gm.at_] using hout.rows,hsz,by simpa [Gm.at_] using hout.fits,by simpa [Gm.at_] using hout.most,fun j hj=>?_,fun q hk=>absurd rfl (himm g q hk)⟩⟩
    rw [List.length_append] at hj
    have hcurg:∀ J,J < (es.length+news.length) * i.size→cur.getD J undef=(cs.toList.take (es.length * i.size)++flat).getD J undef:=fun J hJ=>by
     rw [←getD_toList undef cur,←take_getD undef cur.toList ((es.length+news.length) * i.size) _ hJ,hout.take]
    by_cases hj1:j < es.length
    ·have e6:(es++news).getD j .top=es.getD j .top:=by simp only [List.getD_eq_getElem?_getD];rw [List.getElem?_append_left hj1]
     rw [e6]
     refine ⟨(q7 j hj1).1,fun l hl=>?_⟩
     have hJ:j * i.size+l < es.length * i.size:=idx_lt hj1 hl
     have e7:cur.getD (j * i.size+l) undef=cs.getD (j * i.size+l) undef:=by
      rw [hcurg _ (by rw [Nat.add_mul];omega)]
      simp only [List.getD_eq_getElem?_getD]
      rw [List.getElem?_append_left (by rw [hxl];exact hJ),List.getElem?_take_of_lt hJ]
      simp [Array.getD_eq_getD_getElem?]
     rw [e7]
     exact ⟨((q7 j hj1).2 l hl).1,((q7 j hj1).2 l hl).2.mono hI fun q hq=>⟨⟨hq.1,(dom_hset h la q _).2 hq.2⟩,hAgA q⟩⟩
    ·have e6:(es++news).getD j .top=news.getD (j - es.length) .top:=by simp only [List.getD_eq_getElem?_getD];rw [List.getElem?_append_right (by omega)]
     rw [e6]
     refine ⟨hfl.sized _ (by omega),fun l hl=>?_⟩
     have hge:es.length * i.size≤j * i.size:=Nat.mul_le_mul_right _ (by omega)
     have hJ:(j - es.length) * i.size+l < news.length * i.size:=idx_lt (by omega) hl
     have e7:cur.getD (j * i.size+l) undef=flat.getD ((j - es.length) * i.size+l) undef:=by
      rw [hcurg _ (idx_lt hj hl)]
      simp only [List.getD_eq_getElem?_getD]
      rw [List.getElem?_append_right (by rw [hxl];omega),hxl,Nat.sub_mul]
      congr 2
      omega
     rw [e7]
     refine ⟨hfl.one _ ?_,(hfl.rel _ l (by omega) hl).mono hI fun _ e=>e.elim⟩
     rw [List.getD_eq_getElem?_getD,List.getElem?_eq_getElem (by rw [hfl.len];exact hJ)]
     exact List.getElem_mem _
   ·refine .own _ la _ (es.length+news.length) _ ((dom_hset h la la _).2 hLa) (by simp [Gm.at_]) (Nat.le_refl _) (.inr ⟨g,cap,rfl⟩) fun _=>?_
    simp [ownVal,Gm.at_]
  ·rename_i hSv
   refine toV_mem (fun v h1 h2=>?_) hev
   refine m_app s hn he ho hc hargs hS hX ht0 ht1 hu hi hz hsz (K:=K) (O:=O) ?_
   simp only [evM,hel,if_pos hsd,hSv]
   exact h2
  ·cases hev
theorem m_boxV (s:Sim w G h) (hn:h≠[]) {e:Env} {a:Act} (he:EnvRel w G (dom h) e a) {o:Oper} {t:TypeId} {x:Operand} {y:Opd} {sz:Nat} (ho:o.op=.box t x) (hx:cOpd x=some y) (k:Nat) (hsz:0 < sz)
  {K:Cfg} {O:Orc} {v:AV} {h':Heap} (hev:evM K O (.boxV t sz k y) e h=some (.val v h')):MemOk P w G h a o v h':=by
 have hr:=opd_rel he hx
 simp only [evM] at hev
 split at hev
 case isFalse=>cases hev
 split at hev
 case h_2=>cases hev
 rename_i u h1 hu
 split at hev
 case isFalse=>cases hev
 rename_i hl
 injection hev with hev
 injection hev with e1 e2
 subst e1;subst e2
 have key:∃ G',Sim w G' h1∧Goes w G h w G' h1∧VRel w G' (dom h1) u (a.eval x):=by
  generalize a.eval x=X at hr
  unfold viewK at hu
  split at hu
  case h_2=>cases hu
  rename_i cs hye
  rw [hye] at hr
  split at hu
  case h_2=>cases hu
  rename_i c hc
  split at hu
  case h_2=>cases hu
  rename_i c' h2 hv
  injection hu with hu
  injection hu with e1 e2
  subst e1;subst e2
  obtain ⟨vs,rfl,l1,l2,l3⟩:=agg_shape hr
  have hlt:k < cs.length:=(List.getElem?_eq_some_iff.1 hc).1
  obtain ⟨G',k1,k2,k3⟩:=view_ok c s (by have:=l3 k hlt;rwa [show cs.getD k .top=c by simp [List.getD_eq_getElem?_getD,hc]] at this) hv
  refine ⟨G',k1,k2,.agg _ _ _ (by simp;omega) (fun i hi=>l2 i (by simpa using hi)) fun i hi=>?_⟩
  simp only [List.length_set] at hi
  by_cases hik:k=i
  ·subst hik
   rw [show (cs.set k c').getD k .top=c' by simp [List.getD_eq_getElem?_getD,hlt]]
   exact k3
  ·rw [show (cs.set k c').getD i .top=cs.getD i .top by simp [List.getD_eq_getElem?_getD,List.getElem?_set,hik]]
   exact (l3 i hi).along k2
 obtain ⟨G',k1,k2,k4⟩:=key
 have hne:h1≠[]:=fun e0=>by
  have:=k2.depth
  rw [e0] at this
  cases h<;>simp_all
 obtain ⟨l1,l2,l3⟩:=new_box k1 hne (k4.cellsRel (by omega)) t
 refine ⟨_,_,_,_,?_,.inl rfl,l1,k2.trans l2,l3⟩
 simp [execOp,ho,Instr.box,newVar,newRow]
end Go.Ab
/-
  Maps: made, looked up, assigned to, counted.
-/
namespace Go.Ab
open Go.RowKit Go.MapKept
variable {P:Program} {w:World} {G:Gm} {h:Heap} {L:Loc→Prop}
/- Keys. -/
theorem eqF_eq {k:FK} {a b:AV} (h:eqF k a b=some true):a=b:=by
 cases k<;>cases a<;>cases b<;>simp [eqF] at h
 ·rw [h]
 ·rw [h.1,h.2]
 ·rw [h]
theorem eqFs_eq:∀ {ks:List FK} {as bs:List AV},eqFs ks as bs=some true→as=bs
 | [],[],[],_=>rfl
 | [],[],_ :: _,h=>by simp [eqFs] at h
 | [],_ :: _,_,h=>by simp [eqFs] at h
 | _ :: _,[],_,h=>by simp [eqFs] at h
 | _ :: _,_ :: _,[],h=>by simp [eqFs] at h
 | k :: ks,a :: as,b :: bs,h=>by
  simp only [eqFs] at h
  split at h
  ·rename_i p q h1 h2
   injection h with h
   simp only [Bool.and_eq_true] at h
   obtain ⟨rfl,rfl⟩:=h
   rw [eqF_eq h1,eqFs_eq h2]
  ·cases h
theorem eqK_eq {kk:KK} {a b:AV} (h:eqK kk a b=some true):a=b:=by
 unfold eqK at h
 split at h
 ·exact eqF_eq h
 ·rw [eqFs_eq h]
 ·cases h
theorem eqF_fun {k:FK} {a b:AV} {r:Bool} (h:eqF k a b=some r) {x y:Value} (hx:VRel w G L a x) {L':Loc→Prop} (hy:VRel w G L' a y):x=y:=by
 cases k<;>cases a<;>simp [eqF] at h
 ·rw [bool_shape hx,bool_shape hy]
 ·rw [int_shape hx,int_shape hy]
 ·rw [str_shape hx,str_shape hy]
theorem eqFs_at:∀ {ks:List FK} {as bs:List AV} {r:Bool},eqFs ks as bs=some r→∀ i,i < as.length→∃ k q,eqF k (as.getD i .top) (bs.getD i .top)=some q
 | [],[],[],_,_,i,hi=>by simp at hi
 | [],[],_ :: _,_,h,_,_=>by simp [eqFs] at h
 | [],_ :: _,_,_,h,_,_=>by simp [eqFs] at h
 | _ :: _,[],_,_,h,_,_=>by simp [eqFs] at h
 | _ :: _,_ :: _,[],_,h,_,_=>by simp [eqFs] at h
 | k :: ks,a :: as,b :: bs,r,h,i,hi=>by
  simp only [eqFs] at h
  split at h
  ·rename_i p q h1 h2
   cases i with
   | zero=>exact ⟨k,p,by simpa using h1⟩
   | succ i=>simpa using eqFs_at h2 i (by simpa using hi)
  ·cases h
theorem eqK_fun {kk:KK} {a b:AV} {r:Bool} (h:eqK kk a b=some r) {x y:Value} (hx:VRel w G L a x) {L':Loc→Prop} (hy:VRel w G L' a y):x=y:=by
 unfold eqK at h
 split at h
 ·exact eqF_fun h hx hy
 ·rename_i ks as bs
  cases hx with
  | agg _ _ xs l1 o1 h1=>
   cases hy with
   | agg _ _ ys l2 o2 h2=>
    congr 1
    refine Array.ext (by omega) fun i hi1 hi2=>?_
    obtain ⟨k,q,hk⟩:=eqFs_at h i (by omega)
    have e1:=h1 i (by omega)
    have e2:=h2 i (by omega)
    rw [Array.getD_eq_getD_getElem?,Array.getElem?_eq_getElem hi1] at e1
    rw [Array.getD_eq_getD_getElem?,Array.getElem?_eq_getElem hi2] at e2
    exact eqF_fun hk e1 e2
 ·cases h
theorem eqF_pure {k:FK} {a b:AV} {r:Bool} (h:eqF k a b=some r):a.refOk (fun _=>false)=true:=by
 cases k<;>cases a<;>simp [eqF] at h<;>rfl
theorem eqFs_pure:∀ {ks:List FK} {as bs:List AV} {r:Bool},eqFs ks as bs=some r→AV.refOks (fun _=>false) as=true
 | [],[],[],_,_=>rfl
 | [],[],_ :: _,_,h=>by simp [eqFs] at h
 | [],_ :: _,_,_,h=>by simp [eqFs] at h
 | _ :: _,[],_,_,h=>by simp [eqFs] at h
 | _ :: _,_ :: _,[],_,h=>by simp [eqFs] at h
 | k :: ks,a :: as,b :: bs,r,h=>by
  simp only [eqFs] at h
  split at h
  ·rename_i p q h1 h2
   simp only [AV.refOks,Bool.and_eq_true]
   exact ⟨eqF_pure h1,eqFs_pure h2⟩
  ·cases h
theorem eqK_pure {kk:KK} {a b:AV} {r:Bool} (h:eqK kk a b=some r):a.pure=true:=by
 unfold eqK at h
 split at h
 ·exact eqF_pure h
 ·exact eqFs_pure h
 ·cases h
def findI (kk:KK) (k:AV):List (AV×AV)→Option (Option Nat)
 | []=>some none
 | (a,_) :: r=>match eqK kk k a with
  | some true=>some (some 0)
  | some false=>(findI kk k r).map (·.map (·+1))
  | none=>none
theorem lookK_I {kk:KK} {k:AV}:∀ {es:List (AV×AV)} {r:Option AV},lookK kk k es=some r→(r=none∧findI kk k es=some none)∨∃ i a v,r=some v∧findI kk k es=some (some i)∧es[i]?=some (a,v)
 | [],r,h=>by simp only [lookK,Option.some.injEq] at h;exact .inl ⟨h.symm,rfl⟩
 | (a,v) :: es,r,h=>by
  simp only [lookK] at h
  split at h
  ·rename_i he
   injection h with h
   exact .inr ⟨0,a,v,h.symm,by simp [findI,he],rfl⟩
  ·rename_i he
   rcases lookK_I h with ⟨h1,h2⟩ | ⟨i,b,u,h1,h2,h3⟩
   ·exact .inl ⟨h1,by simp [findI,he,h2]⟩
   ·exact .inr ⟨i+1,b,u,h1,by simp [findI,he,h2],by simpa using h3⟩
  ·cases h
theorem updK_I {kk:KK} {k v:AV}:∀ {es es':List (AV×AV)},updK kk k v es=some es'→(findI kk k es=some none∧es'=es++[(k,v)])∨∃ i a u,findI kk k es=some (some i)∧es[i]?=some (a,u)∧es'=es.set i (a,v)∧eqK kk k a=some true
 | [],es',h=>by simp only [updK,Option.some.injEq] at h;exact .inl ⟨rfl,h.symm⟩
 | (a,u) :: es,es',h=>by
  simp only [updK] at h
  split at h
  ·rename_i he
   injection h with h
   exact .inr ⟨0,a,u,by simp [findI,he],rfl,h.symm,he⟩
  ·rename_i he
   split at h
   ·rename_i r hr
    injection h with h
    subst h
    rcases updK_I hr with ⟨h1,h2⟩ | ⟨i,b,x,h1,h2,h3,h4⟩
    ·exact .inl ⟨by simp [findI,he,h1],by simp [h2]⟩
    ·exact .inr ⟨i+1,b,x,by simp [findI,he,h1],by simpa using h2,by simp [h3],h4⟩
   ·cases h
  ·cases h
theorem sameNow_ok {k:FK} {t:TypeId} {d:TypeDesc} (hu:P.underlying t=some d) (hk:fKind P t=some k) {a b:AV} {x y:Value} (ha:VRel w G L a x) {L':Loc→Prop} (hb:VRel w G L' b y) {r:Bool} (he:eqF k a b=some r) :
  Instr.sameNow d x y=some r:=by
 unfold fKind at hk
 rw [hu] at hk
 cases k with
 | bool=>
  cases a<;>cases b<;>simp [eqF] at he
  have e1:=bool_shape ha
  have e2:=bool_shape hb
  subst e1 e2
  split at hk<;>simp at hk
  rename_i hd
  injection hd with hd
  subst hd
  rw [←he]
  rename_i p q _
  cases p<;>cases q<;>rfl
 | int=>
  cases a<;>cases b<;>simp [eqF] at he
  obtain ⟨rfl,he⟩:=he
  have e1:=int_shape ha
  have e2:=int_shape hb
  subst e1 e2
  split at hk<;>simp at hk
  rename_i hd
  injection hd with hd
  subst hd
  simp only [Instr.sameNow,if_true,←he]
  rfl
 | str=>
  cases a<;>cases b<;>simp [eqF] at he
  have e1:=str_shape ha
  have e2:=str_shape hb
  subst e1 e2
  split at hk<;>simp at hk
  rename_i hd
  injection hd with hd
  subst hd
  simp only [Instr.sameNow,←he]
  congr 1
  rw [Bool.eq_iff_iff,bytes_beq]
  simp
def ERel (w:World) (G:Gm) (L:Loc→Prop) (es:List (AV×AV)) (l:List MapEntry):Prop:=
 l.length=es.length∧∀ i,i < es.length→VRel w G NoLoc (es.getD i (.top,.top)).1 (l.getD i default).key∧VRel w G L (es.getD i (.top,.top)).2 (l.getD i default).val
theorem ERel.tail {e:AV×AV} {es:List (AV×AV)} {m:MapEntry} {l:List MapEntry} (hr:ERel w G L (e :: es) (m :: l)):ERel w G L es l:=
 ⟨by simpa using hr.1,fun i hi=>by simpa using hr.2 (i+1) (by simpa using hi)⟩
theorem findNow_ok {k:FK} {t:TypeId} {d:TypeDesc} (hu:P.underlying t=some d) (hk:fKind P t=some k) {kv:AV} {x:Value} (hx:VRel w G L kv x) {L':Loc→Prop}:∀ {es:List (AV×AV)} {l:List MapEntry} {r:Option Nat} (n:Nat),ERel w G L' es l →
  findI (.one k) kv es=some r→Instr.findNow d x l n=some (r.map fun i=>(n+i,(l.getD i default).val))
 | [],l,r,n,hr,hf=>by
  have:l=[]:=List.eq_nil_of_length_eq_zero (by simpa using hr.1)
  subst this
  simp only [findI,Option.some.injEq] at hf
  subst hf
  rfl
 | (a,v) :: es,[],r,n,hr,hf=>by simpa using hr.1
 | (a,v) :: es,m :: l,r,n,hr,hf=>by
  have h0:=(hr.2 0 (by simp)).1
  simp only [List.getD_cons_zero] at h0
  simp only [findI,eqK] at hf
  split at hf
  ·rename_i he
   injection hf with hf
   subst hf
   simp [Instr.findNow,sameNow_ok hu hk hx h0 he]
  ·rename_i he
   cases hq:findI (.one k) kv es with
   | none=>rw [hq] at hf;cases hf
   | some q=>
    rw [hq] at hf
    injection hf with hf
    subst hf
    have ih:=findNow_ok hu hk hx (n+1) hr.tail hq
    simp only [Instr.findNow,sameNow_ok hu hk hx h0 he,ih]
    cases q with
    | none=>rfl
    | some i=>simp;omega
  ·cases hf
theorem run_equalS {t:TypeId} {ks:List FK} (hf:flatEq P t=some ks) {as bs:List AV} {x y:Value} (hx:VRel w G L (.agg as) x) (hy:VRel w G L (.agg bs) y) {r:Bool} (h3:eqFs ks as bs=some r):(Op.equal t x y).run P w=.ok r w:=by
 unfold flatEq at hf
 split at hf
 ·rename_i fs hu
  split at hf
  ·rename_i hc
   obtain ⟨hsi,hgt⟩:=hc
   cases hx with
   | agg L as xs al ao ah=>
    cases hy with
    | agg L bs ys bl bo bh=>
     have hP:P.fieldsOf t=fs:=by unfold Program.fieldsOf;rw [hu]
     have hu2:P.underlying t=some (.struct (P.fieldsOf t)):=by rw [hP];exact hu
     have key:∀ d,(Op.equalIn (d+1+1) t (.agg xs) (.agg ys)).run P w=.ok r w:=fun d=>by
      rw [run_equalIn_struct w (d+1) t xs ys hu2 hsi,hP]
      exact run_eqFs d ⟨al,fun i hi=>⟨ao i hi,ah i hi⟩⟩ ⟨bl,fun i hi=>⟨bo i hi,bh i hi⟩⟩ fs.toList 0 ks r hf h3
     exact key 9998
  ·cases hf
 ·cases hf
theorem eqK_st {ks:List FK} {a b:AV} {r:Bool} (h:eqK (.st ks) a b=some r):∃ as bs,a=.agg as∧b=.agg bs∧eqFs ks as bs=some r:=by
 cases a<;>simp [eqK] at h
 cases b<;>simp at h
 exact ⟨_,_,rfl,rfl,h⟩
theorem findAsk_ok {ks:List FK} {t:TypeId} (hf:flatEq P t=some ks) {kv:AV} {x:Value} (hx:VRel w G L kv x) (hp:kv.pure=true) {L':Loc→Prop}:∀ {es:List (AV×AV)} {l:List MapEntry} {r:Option Nat} (n:Nat),ERel w G L' es l →
  findI (.st ks) kv es=some r→(Instr.findAsking t x l n).run P w=.ok (r.map fun i=>(n+i,(l.getD i default).val)) w
 | [],l,r,n,hr,hi=>by
  have:l=[]:=List.eq_nil_of_length_eq_zero (by simpa using hr.1)
  subst this
  simp only [findI,Option.some.injEq] at hi
  subst hi
  rfl
 | (a,v) :: es,[],r,n,hr,hi=>by simpa using hr.1
 | (a,v) :: es,m :: l,r,n,hr,hi=>by
  have h0:=(hr.2 0 (by simp)).1
  simp only [List.getD_cons_zero] at h0
  simp only [findI] at hi
  split at hi
  ·rename_i he
   injection hi with hi
   subst hi
   obtain ⟨as,bs,rfl,rfl,h3⟩:=eqK_st he
   have k:=run_equalS hf (hx.pure_ hp (L':=NoLoc)) h0 h3
   simp [Instr.findAsking,k]
  ·rename_i he
   cases hq:findI (.st ks) kv es with
   | none=>rw [hq] at hi;cases hi
   | some q=>
    rw [hq] at hi
    injection hi with hi
    subst hi
    have ih:=findAsk_ok hf hx hp (n+1) hr.tail hq
    obtain ⟨as,bs,rfl,rfl,h3⟩:=eqK_st he
    have k:=run_equalS hf (hx.pure_ hp (L':=NoLoc)) h0 h3
    simp only [Instr.findAsking,Sem.run_bind,k,Result.andThen_ok,Bool.false_eq_true,if_false,ih]
    cases q with
    | none=>rfl
    | some i=>simp;omega
  ·cases hi
theorem find_ok {kk:KK} {t:TypeId} (hk:keyK P t=some kk) {kv:AV} {x:Value} (hx:VRel w G L kv x) (hp:kv.pure=true) {L':Loc→Prop} {es:List (AV×AV)} {l:List MapEntry} {r:Option Nat} (hr:ERel w G L' es l)
  (hf:findI kk kv es=some r):(Instr.findKey t x l).run P w=.ok (r.map fun i=>(i,(l.getD i default).val)) w:=by
 unfold keyK at hk
 split at hk
 ·rename_i k hkind
  split at hk
  ·rename_i hsh
   injection hk with hk
   subst hk
   obtain ⟨d,i,hu,_⟩:=shape_parts hsh
   have:=findNow_ok hu hkind hx 0 hr hf
   simp only [Nat.zero_add] at this
   exact run_findKey hu this
  ·cases hk
 ·split at hk
  ·rename_i ks hfl
   injection hk with hk
   subst hk
   have hw:(match P.underlying t with | some (.array _ _) | some (.struct _)=>true | _=>false)=true:=by
    unfold flatEq at hfl
    split at hfl
    ·rename_i fs hu
     rw [hu]
    ·cases hfl
   have:=findAsk_ok hfl hx hp 0 hr hf
   simp only [Nat.zero_add] at this
   rw [run_findKey_eq w hw x l]
   exact this
  ·cases hk
theorem check_one {k:FK} {t:TypeId} (hk:fKind P t=some k) {a b:AV} {x:Value} (ha:VRel w G L a x) {r:Bool} (he:eqF k a b=some r) (em:Bool) (n:Nat):(Instr.checkKey em (n+1) t x).run P w=.ok () w:=by
 unfold fKind at hk
 cases k with
 | bool=>
  cases a<;>simp [eqF] at he
  have e1:=bool_shape ha
  subst e1
  split at hk<;>simp at hk
  rename_i hu
  simp [Instr.checkKey,run_underlying hu]
 | int=>
  cases a<;>simp [eqF] at he
  have e1:=int_shape ha
  subst e1
  split at hk<;>simp at hk
  rename_i hu
  simp [Instr.checkKey,run_underlying hu]
 | str=>
  cases a<;>simp [eqF] at he
  have e1:=str_shape ha
  subst e1
  split at hk<;>simp at hk
  rename_i hu
  simp [Instr.checkKey,run_underlying hu]
theorem check_fields (em:Bool) (n:Nat) {as bs:List AV} {xs:Array Value} (ha:CellsRel w G L as xs):∀ (fs:List Field) (i:Nat) (ks:List FK) (r:Bool),fKinds P i fs=some ks→eqFs ks (as.drop i) (bs.drop i)=some r →
  ∀ f ∈ fs, f.name ≠ "_" ∧ ∃ x, (part f.type xs f.offset).run P w = .ok x w ∧ (Instr.checkKey em (n + 1) f.type x).run P w = .ok () w
 | [],i,ks,r,hk,he=>by simp
 | f :: fs,i,ks,r,hk,he=>by
  simp only [fKinds] at hk
  split at hk
  ·rename_i hc
   obtain ⟨ho,hn,hsh⟩:=hc
   split at hk
   ·rename_i k s h1 h2
    injection hk with hk
    subst hk
    cases h3:as.drop i with
    | nil=>simp [h3,eqFs] at he
    | cons a as'=>
     cases h4:bs.drop i with
     | nil=>simp [h3,h4,eqFs] at he
     | cons b bs'=>
      simp only [h3,h4,eqFs] at he
      split at he
      ·rename_i p q h5 h6
       have ga:as[i]?=some a:=by
        have:(as.drop i)[0]?=some a:=by rw [h3];rfl
        simpa using this
       have da:as.drop (i+1)=as':=by
        have:(as.drop i).drop 1=as':=by rw [h3];rfl
        simpa using this
       have db:bs.drop (i+1)=bs':=by
        have:(bs.drop i).drop 1=bs':=by rw [h4];rfl
        simpa using this
       obtain ⟨x,k1,k2⟩:=part_rel ha hsh (off:=i) (v:=a) (by simpa using ga)
       have k5:=check_one h1 k2 h5 em n
       have k6:=check_fields em n (bs:=bs) ha fs (i+1) s q h2 (by rw [da,db];exact h6)
       intro g hg
       rcases List.mem_cons.1 hg with rfl | hg
       ·exact ⟨hn,x,by rw [ho];exact k1,k5⟩
       ·exact k6 g hg
      ·cases he
   ·cases hk
  ·cases hk
theorem forIn_ok {α:Type} {body:α→PUnit→Sem (ForInStep PUnit)}:∀ {l:List α},(∀ x∈l,(body x PUnit.unit).run P w=.ok (.yield PUnit.unit) w)→(forIn l PUnit.unit body).run P w=.ok PUnit.unit w
 | [],_=>by simp
 | x :: l,h=>by
  simp only [List.forIn_cons,Sem.run_bind,h x (by simp),Result.andThen_ok]
  exact forIn_ok fun y hy=>h y (by simp [hy])
theorem check_ok {kk:KK} {t:TypeId} (hk:keyK P t=some kk) {a b:AV} {x:Value} (hx:VRel w G L a x) {r:Bool} (he:eqK kk a b=some r) (em:Bool):(Instr.checkKey em 10000 t x).run P w=.ok () w:=by
 unfold keyK at hk
 split at hk
 ·rename_i k hkind
  split at hk
  ·injection hk with hk
   subst hk
   exact check_one hkind hx he em 9999
  ·cases hk
 ·split at hk
  ·rename_i ks hfl
   injection hk with hk
   subst hk
   obtain ⟨as,bs,rfl,rfl,h3⟩:=eqK_st he
   unfold flatEq at hfl
   split at hfl
   ·rename_i fs hu
    split at hfl
    ·cases hx with
     | agg L as xs al ao ah=>
      have:=check_fields (P:=P) em 9998 (bs:=bs) (xs:=xs) ⟨al,fun i hi=>⟨ao i hi,ah i hi⟩⟩ fs.toList 0 ks r hfl h3
      rw [show (10000:Nat)=9999+1 from rfl,Instr.checkKey]
      simp only [Sem.run_bind,run_underlying hu,Result.andThen_ok]
      rw [←Array.forIn_toList]
      rw [forIn_ok fun f hf=>?_]
      ·rfl
      ·obtain ⟨hn,x,k1,k2⟩:=this f hf
       simp [hn,k1,k2]
    ·cases hfl
   ·cases hfl
  ·cases hk
theorem bits_one {k:FK} {a b:AV} {r:Bool} (he:eqF k a b=some r) {x:Value} (ha:VRel w G L a x) (n:Nat):Instr.sameBits n x x=true:=by
 cases k<;>cases a<;>simp [eqF] at he
 ·rw [bool_shape ha];simp [Instr.sameBits]
 ·rw [int_shape ha];simp [Instr.sameBits]
 ·rw [str_shape ha];simp [Instr.sameBits,bytes_beq]
theorem zip_all {α:Type} {p:α→α→Bool}:∀ {l:List α},(∀ x∈l,p x x=true)→(l.zip l).all (fun (x,y)=>p x y)=true
 | [],_=>rfl
 | x :: l,h=>by
  simp only [List.zip_cons_cons,List.all_cons,Bool.and_eq_true]
  exact ⟨h x (by simp),zip_all fun y hy=>h y (by simp [hy])⟩
theorem bits_ok {kk:KK} {a b:AV} {r:Bool} (he:eqK kk a b=some r) {x:Value} (ha:VRel w G L a x) (n:Nat):Instr.sameBits (n+1) x x=true:=by
 unfold eqK at he
 split at he
 ·exact bits_one he ha _
 ·rename_i ks as bs
  cases ha with
  | agg _ _ xs l1 o1 h1=>
   simp only [Instr.sameBits,beq_self_eq_true,Bool.true_and]
   refine zip_all fun y hy=>?_
   obtain ⟨i,hi,e⟩:=List.getElem_of_mem hy
   have hi2:i < xs.size:=by simpa using hi
   obtain ⟨k,q,hk⟩:=eqFs_at he i (by omega)
   have e1:=h1 i (by omega)
   rw [Array.getD_eq_getD_getElem?,Array.getElem?_eq_getElem hi2] at e1
   have e3:xs[i]=y:=by simpa using e
   rw [e3] at e1
   exact bits_one hk e1 n
 ·cases he
theorem mp_shape {a:Loc} {x:Value} (h:VRel w G L (.mp a) x):∃ b,x=.map (some b)∧L a∧G.len a=none∧G.blk a=some b:=by
 cases h with
 | mp _ a b hL hm hb=>exact ⟨b,rfl,hL,hm,hb⟩
theorem erel_of {es:List (AV×AV)} {entries:Array MapEntry} (h1:entries.size=es.length)
  (h2:∀ i,i < es.length→VRel w G NoLoc (es.getD i (.top,.top)).1 (entries.getD i default).key∧VRel w G L (es.getD i (.top,.top)).2 (entries.getD i default).val):ERel w G L es entries.toList:=
 ⟨by simpa using h1,fun i hi=>by
  have:=h2 i hi
  rwa [show entries.toList.getD i default=entries.getD i default by simp [List.getD_eq_getElem?_getD,Array.getD_eq_getD_getElem?]]⟩
theorem m_mkM (s:Sim w G h) (hn:h≠[]) {a:Act} {o:Oper} {t:TypeId} {r:Option Operand} (ho:o.op=.makeMap t r) (hr:r=none∨∃ k n,r=some (.const (.int k n))∧∃ kt et,P.underlying t=some (.map kt et)) :
  MemOk P w G h a o (.mp (hnext h)) (hnew h (.map [])):=by
 have hb:∀ k,k < w.heap.size→(w.alloc (.map #[] 0)).heap[k]?=w.heap[k]?:=fun k hk=>heap_alloc_old w _ hk
 have g:=Goes.new (w':=w.alloc (.map #[] 0)) (B:=.map []) (b:=some w.heap.size) (n:=none) (c:=0) s hn rfl rfl rfl (by simp) hb (fun k hk=>by injection hk with hk;omega)
 refine ⟨_,.map (some w.heap.size),w.alloc (.map #[] 0),G.at_ (hnext h) (some w.heap.size) none 0,?_,.inl rfl,s.new hn (by simp) hb (fun k hk=>by injection hk with hk;omega) ?_,g,?_⟩
 ·rcases hr with rfl | ⟨k,n,rfl,kt,et,hu⟩
  ·simp [execOp,ho,Instr.makeMap]
  ·simp [execOp,ho,Instr.makeMap,run_underlying hu,asInt,asIntOf,Act.eval]
 ·exact ⟨w.heap.size,#[],0,by simp [Gm.at_],by simp [Gm.at_],heap_alloc_new w _,rfl,fun i hi=>absurd hi (by simp)⟩
 ·exact .mp _ _ _ ((dom_hnew hn _ _).2 (.inl rfl)) (by simp [Gm.at_]) (by simp [Gm.at_])
theorem m_lkp (s:Sim w G h) {e:Env} {a:Act} (he:EnvRel w G (dom h) e a) {o:Oper} {t kt et:TypeId} {x k:Operand} {x' k':Opd} {ok:Bool} {kk:KK} {z:AV}
  (ho:o.op=.lookup t x k ok) (hx:cOpd x=some x') (hk:cOpd k=some k') (hu:P.underlying t=some (.map kt et)) (hkk:keyK P kt=some kk) (hz:zeroOf P et=some z)
  {K:Cfg} {O:Orc} {v:AV} {h':Heap} (hev:evM K O (.lkp kk z ok x' k') e h=some (.val v h')):MemOk P w G h a o v h':=by
 have hr:=opd_rel he hx
 have hrk:=opd_rel he hk
 obtain ⟨i,zv,hi,hzv,hzz,hzl⟩:=zero_parts hz
 have hzr:VRel w G (dom h) z zv:=by rw [hzz];exact vrel_ofV zv
 have hrun:(zeroValue et).run P w=.ok zv w:=by simp [zeroValue,typeInfo,hi,hzv]
 have done:∀ {y:Value} {u:AV} {b:Bool},VRel w G (dom h) u y→(Instr.lookup t (a.eval x) (a.eval k) ok).run P w=.ok (if ok then .tuple #[y,.bool b] else y) w→MemOk P w G h a o (if ok then .tup [u,.bool b] else u) h:=fun {y u b} hy hl=>by
  refine ⟨_,(if ok then .tuple #[y,.bool b] else y),w,G,?_,.inl rfl,s,Goes.refl _ _ _,?_⟩
  ·simp [execOp,ho,hl]
  ·cases ok
   ·exact hy
   ·simp only [if_true]
    refine .tup _ _ _ rfl fun i hi=>?_
    match i,hi with
    | 0,_=>exact hy
    | 1,_=>exact .bool _ _
    | i+2,hi=>simp at hi;omega
 simp only [evM] at hev
 split at hev
 ·rename_i m hm
  rw [hm] at hr
  obtain ⟨b,e1,hL,hlen,hblk⟩:=mp_shape hr
  split at hev
  ·rename_i es hes
   obtain ⟨b',entries,clock,h1,h2,h3,h4,h5⟩:=s.blk m _ hes
   rw [hblk] at h2
   injection h2 with h2
   subst h2
   split at hev
   ·rename_i q hq
    have hck:=fun em=>check_ok (P:=P) hkk hrk hq em
    have hp:(k'.ev e).pure=true:=eqK_pure hq
    have er:=erel_of h4 h5
    split at hev
    ·rename_i u hlk
     injection hev with hev
     injection hev with ev1 ev2
     subst ev1 ev2
     rcases lookK_I hlk with ⟨c1,_⟩ | ⟨j,ka,u',c1,c2,c3⟩
     ·cases c1
     ·injection c1 with c1
      subst c1
      have hf:=find_ok (P:=P) hkk hrk hp er c2
      have hj:j < es.length:=(List.getElem?_eq_some_iff.1 c3).1
      have:=(er.2 j hj).2
      rw [show es.getD j (.top,.top)=(ka,u) by simp [List.getD_eq_getElem?_getD,c3]] at this
      exact done (this.wider fun a ha=>ha.2) (by rw [e1];simp [Instr.lookup,run_underlying hu,Go.MapKept.run_getObj_map h3,hck,hf])
    ·rename_i hlk
     injection hev with hev
     injection hev with ev1 ev2
     subst ev1 ev2
     rcases lookK_I hlk with ⟨_,c2⟩ | ⟨j,ka,u',c1,c2,c3⟩
     ·have hf:=find_ok (P:=P) hkk hrk hp er c2
      exact done hzr (by rw [e1];simp [Instr.lookup,run_underlying hu,Go.MapKept.run_getObj_map h3,hck,hf,hrun])
     ·cases c1
    ·cases hev
   ·cases hev
  ·cases hev
 ·rename_i hm
  rw [hm] at hr
  have e1:a.eval x=.map none:=by
   generalize a.eval x=xv at hr
   cases hr
   rfl
  split at hev
  ·rename_i q hq
   injection hev with hev
   injection hev with ev1 ev2
   subst ev1 ev2
   have hck:=fun em=>check_ok (P:=P) hkk hrk hq em
   have hf:=find_ok (P:=P) (es:=[]) (l:=[]) (L':=NoLoc) (r:=none) hkk hrk (eqK_pure hq) ⟨rfl,fun i hi=>absurd hi (by simp)⟩ rfl
   exact done hzr (by rw [e1];simp [Instr.lookup,run_underlying hu,hck,hf,hrun])
  ·cases hev
 ·cases hev
theorem m_mup (s:Sim w G h) {e:Env} {a:Act} (he:EnvRel w G (dom h) e a) {o:Oper} {t kt et:TypeId} {x k v:Operand} {x' k' v':Opd} {kk:KK}
  (ho:o.op=.mapUpdate t x k v∨o.op=.insert t x k v) (hx:cOpd x=some x') (hk:cOpd k=some k') (hv:cOpd v=some v') (hu:P.underlying t=some (.map kt et)) (hkk:keyK P kt=some kk)
  {K:Cfg} {O:Orc} {u:AV} {h':Heap} (hev:evM K O (.mup kk x' k' v') e h=some (.val u h')):MemOk P w G h a o u h':=by
 have hr:=opd_rel he hx
 have hrk:=opd_rel he hk
 have hrv:=opd_rel he hv
 have hex:(execOp a.eval o).run P w=((Instr.mapUpdate t (a.eval x) (a.eval k) (a.eval v)).run P w).andThen fun _ w'=>.ok .skip w':=by
  rcases ho with ho | ho<;>simp [execOp,ho]<;>rfl
 simp only [evM] at hev
 split at hev
 ·rename_i m hm
  rw [hm] at hr
  obtain ⟨b,e1,hL,hlen,hblk⟩:=mp_shape hr
  split at hev
  ·rename_i es hes
   obtain ⟨b',entries,clock,h1,h2,h3,h4,h5⟩:=s.blk m _ hes
   rw [hblk] at h2
   injection h2 with h2
   subst h2
   split at hev
   ·rename_i hc
    obtain ⟨hp,hlev⟩:=hc
    split at hev
    ·rename_i q es' hq hup
     injection hev with hev
     injection hev with ev1 ev2
     subst ev1 ev2
     have hck:=fun em=>check_ok (P:=P) hkk hrk hq em
     have er:=erel_of h4 h5
     have key:∃ entries' clock',(Instr.mapUpdate t (.map (some b)) (a.eval k) (a.eval v)).run P w=.ok () { w with heap:=w.heap.setIfInBounds b (.map entries' clock') }∧entries'.size=es'.length ∧
       ∀ i,i < es'.length→((es'.getD i (.top,.top)).1=k'.ev e∧(entries'.getD i default).key=a.eval k∨((es'.getD i (.top,.top)).1=(es.getD i (.top,.top)).1∧(entries'.getD i default).key=(entries.getD i default).key∧i < es.length)) ∧
        ((es'.getD i (.top,.top)).2=v'.ev e∧(entries'.getD i default).val=a.eval v∨((es'.getD i (.top,.top)).2=(es.getD i (.top,.top)).2∧(entries'.getD i default).val=(entries.getD i default).val∧i < es.length)):=by
      rcases updK_I hup with ⟨c1,c2⟩ | ⟨j,ka,u0,c1,c2,c3,c4⟩
      ·have hf:=find_ok (P:=P) hkk hrk hp er c1
       refine ⟨entries.push { key:=a.eval k,val:=a.eval v,born:=clock },clock+1,?_,?_,fun i hi=>?_⟩
       ·simp [Instr.mapUpdate,run_underlying hu,Go.MapKept.run_getObj_map h3,hck,hf,Go.MapKept.run_setObj_map _ h3]
       ·rw [c2];simp [h4]
       ·rw [c2] at hi ⊢
        simp only [List.length_append,List.length_singleton] at hi
        by_cases hl:i < es.length
        ·have p1:(es++[(k'.ev e,v'.ev e)]).getD i (.top,.top)=es.getD i (.top,.top):=by simp [List.getD_eq_getElem?_getD,List.getElem?_append_left hl]
         have p2:(entries.push { key:=a.eval k,val:=a.eval v,born:=clock }).getD i default=entries.getD i default:=by
          simp only [Array.getD_eq_getD_getElem?]
          rw [Array.getElem?_push_lt (by omega),Array.getElem?_eq_getElem (by omega)]
         rw [p1,p2]
         exact ⟨.inr ⟨rfl,rfl,hl⟩,.inr ⟨rfl,rfl,hl⟩⟩
        ·have hi2:i=es.length:=by omega
         have p1:(es++[(k'.ev e,v'.ev e)]).getD i (.top,.top)=(k'.ev e,v'.ev e):=by simp [List.getD_eq_getElem?_getD,hi2]
         have p2:(entries.push { key:=a.eval k,val:=a.eval v,born:=clock }).getD i default={ key:=a.eval k,val:=a.eval v,born:=clock }:=by
          rw [hi2,←h4]
          simp [Array.getD_eq_getD_getElem?]
         rw [p1,p2]
         exact ⟨.inl ⟨rfl,rfl⟩,.inl ⟨rfl,rfl⟩⟩
      ·have hf:=find_ok (P:=P) hkk hrk hp er c1
       have hj:j < es.length:=(List.getElem?_eq_some_iff.1 c2).1
       have hj2:j < entries.size:=by omega
       have hka:=eqK_eq c4
       have hkr:=(er.2 j hj).1
       rw [show es.getD j (.top,.top)=(ka,u0) by simp [List.getD_eq_getElem?_getD,c2]] at hkr
       have hsame:entries[j].key=a.eval k:=by
        have e2:(entries.toList.getD j default).key=entries[j].key:=by simp [List.getD_eq_getElem?_getD,hj2]
        rw [←e2]
        simp only at hkr
        rw [←hka] at hkr
        exact eqK_fun hq hkr hrk
       refine ⟨entries.modify j fun e0=>{ e0 with key:=a.eval k,val:=a.eval v },clock,?_,?_,fun i hi=>?_⟩
       ·have hbits:=bits_ok hq hrk 9999
        simp [Instr.mapUpdate,run_underlying hu,Go.MapKept.run_getObj_map h3,hck,hf,Go.MapKept.run_setObj_map _ h3,Instr.keyThatStays,hj2,hsame,hbits]
       ·rw [c3];simp [h4]
       ·rw [c3] at hi ⊢
        simp only [List.length_set] at hi
        by_cases hij:i=j
        ·subst hij
         have p1:(es.set i (ka,v'.ev e)).getD i (.top,.top)=(ka,v'.ev e):=by simp [List.getD_eq_getElem?_getD,hi]
         have p2:(entries.modify i fun e0=>{ e0 with key:=a.eval k,val:=a.eval v }).getD i default={ entries[i] with key:=a.eval k,val:=a.eval v }:=by
          rw [Array.getD_eq_getD_getElem?,Array.getElem?_modify,if_pos rfl,Array.getElem?_eq_getElem hj2]
          rfl
         rw [p1,p2]
         exact ⟨.inl ⟨hka.symm,rfl⟩,.inl ⟨rfl,rfl⟩⟩
        ·have p1:(es.set j (ka,v'.ev e)).getD i (.top,.top)=es.getD i (.top,.top):=by simp [List.getD_eq_getElem?_getD,List.getElem?_set,Ne.symm hij]
         have p2:(entries.modify j fun e0=>{ e0 with key:=a.eval k,val:=a.eval v }).getD i default=entries.getD i default:=by
          simp [Array.getD_eq_getD_getElem?,Array.getElem?_modify,Ne.symm hij]
         rw [p1,p2]
         exact ⟨.inr ⟨rfl,rfl,hi⟩,.inr ⟨rfl,rfl,hi⟩⟩
     obtain ⟨entries',clock',hrun,hsz,hent⟩:=key
     have hw:∀ r,r≠b→({ w with heap:=w.heap.setIfInBounds b (.map entries' clock') }:World).heap[r]?=w.heap[r]?:=fun r hr=>(heap_set (o':=.map entries' clock') h3).2 r hr
     have hI:ImmKept w G { w with heap:=w.heap.setIfInBounds b (.map entries' clock') } G:=fun r q hi=>by
      refine ⟨hi,?_⟩
      by_cases hrb:r=b
      ·subst hrb
       simp [World.cell?,(heap_set (o':=.map entries' clock') h3).1,h3]
      ·exact World.cell?_of_block (hw r hrb)
     have hA:∀ a,Agree G G a:=Agree.refl G
     refine ⟨_,undef,{ w with heap:=w.heap.setIfInBounds b (.map entries' clock') },G,?_,.inr ⟨rfl,rfl⟩,
      s.update hL (by simp) (fun r _ hr=>hw r fun e=>hr (by rw [e];exact hblk)) (fun _ _=>⟨rfl,rfl,rfl⟩) (hA m) hI (fun _ _ hi=>.inl hi) (fun _ hk=>.inl hk) ?_,
      Goes.update hL rfl rfl rfl (by simp) (fun r _ hr=>hw r fun e=>hr (by rw [e];exact hblk)) (fun _ _=>⟨rfl,rfl,rfl⟩) (hA m) hI (fun _ hk=>.inl hk) (fun _ _ hk=>.inl hk),?_⟩
     ·rw [hex,e1,hrun];rfl
     ·refine ⟨b,entries',clock',h1,hblk,(heap_set (o':=.map entries' clock') h3).1,hsz,fun i hi=>?_⟩
      obtain ⟨c1,c2⟩:=hent i hi
      constructor
      ·rcases c1 with ⟨q1,q2⟩ | ⟨q1,q2,q3⟩
       ·rw [q1,q2]
        exact (hrk.pure_ hp (L':=NoLoc)).mono hI fun a ha=>ha.elim
       ·rw [q1,q2]
        exact (h5 i q3).1.mono hI fun a ha=>ha.elim
      ·rcases c2 with ⟨q1,q2⟩ | ⟨q1,q2,q3⟩
       ·rw [q1,q2]
        exact hrv.goes hI (p:=fun q=>decide (q.1≤m.1)) hlev fun q hq hpq=>⟨⟨by simpa using hpq,(dom_hset h m q _).2 hq⟩,hA q⟩
       ·rw [q1,q2]
        exact (h5 i q3).2.mono hI fun q hq=>⟨⟨hq.1,(dom_hset h m q _).2 hq.2⟩,hA q⟩
     ·exact .tup _ _ _ rfl fun i hi=>by simp at hi
    ·cases hev
   ·cases hev
  ·cases hev
 ·cases hev
theorem m_lenM (s:Sim w G h) {e:Env} {a:Act} (he:EnvRel w G (dom h) e a) {o:Oper} {c:Call} {t kt et:TypeId} {x:Operand} {x':Opd}
  (ho:o.op=.call c) (hc:c.callee=.builtin .len) (hargs:c.args.toList=[x]) (hx:cOpd x=some x') (ht:c.argTypes[0]?=some t) (hu:P.underlying t=some (.map kt et))
  {K:Cfg} {O:Orc} {v:AV} {h':Heap} (hev:evM K O (.lenM x') e h=some (.val v h')):MemOk P w G h a o v h':=by
 have hr:=opd_rel he hx
 obtain ⟨as,hargs'⟩:∃ as,c.args=as:=⟨_,rfl⟩
 have hargs2:c.args=#[x]:=by
  have:=congrArg List.toArray hargs
  simpa using this
 simp only [evM] at hev
 split at hev
 ·rename_i m hm
  rw [hm] at hr
  obtain ⟨b,e1,hL,hlen,hblk⟩:=mp_shape hr
  split at hev
  ·rename_i es hes
   injection hev with hev
   injection hev with ev1 ev2
   subst ev1 ev2
   obtain ⟨b',entries,clock,h1,h2,h3,h4,h5⟩:=s.blk m _ hes
   rw [hblk] at h2
   injection h2 with h2
   subst h2
   refine ⟨_,.int .i64 (es.length:Int),w,G,?_,.inl rfl,s,Goes.refl _ _ _,.int _ _ _⟩
   simp [execOp,ho,resolve,hc,hargs2,invoke,builtin,Builtin.len_,ht,e1,run_underlying hu,goInt,Go.MapKept.run_getObj_map h3,h4]
  ·cases hev
 ·rename_i hm
  injection hev with hev
  injection hev with ev1 ev2
  subst ev1 ev2
  rw [hm] at hr
  have e1:a.eval x=.map none:=by
   generalize a.eval x=xv at hr
   cases hr
   rfl
  refine ⟨_,.int .i64 0,w,G,?_,.inl rfl,s,Goes.refl _ _ _,.int _ _ _⟩
  simp [execOp,ho,resolve,hc,hargs2,invoke,builtin,Builtin.len_,ht,e1,run_underlying hu,goInt]
 ·cases hev
end Go.Ab
/-
  Code: what the evaluator says of it holds.
-/
namespace Go.Ab
open Go.RowKit
variable {P:Program}
def outHeap:Out→Heap
 | .val _ h=>h
 | .pan _ h=>h
def EndRel (w:World) (G:Gm) (h:Heap) (out:Out) (e:Ending) (w':World):Prop:=
 ∃ G',Sim w' G' (outHeap out)∧Goes w G h w' G' (outHeap out) ∧
  match out with
  | .val v h'=>∃ x,e=.returned x∧VRel w' G' (dom h') v x
  | .pan v h'=>∃ x,e=.panicked [{ v:=x,recovered:=false }]∧VRel w' G' (dom h') v x
def Enterable (P:Program) (f:FuncId):Prop:=∀ (args:Array Value) (w:World),(callFunc f args).run P w=.ok (.enter f args) w
def ArgsRel (w:World) (G:Gm) (L:Loc→Prop) (args:List AV) (xs:Array Value):Prop:=xs.size=args.length∧∀ i,i < args.length→VRel w G L (args.getD i .top) (xs.getD i undef)
def FnSound (P:Program) (O:Orc):Prop:=∀ f args h out,O.fn f args h=some out→Enterable P f∧∀ (w:World) (G:Gm) (xs:Array Value),Sim w G h→ArgsRel w G (dom h) args xs→Calls P f xs w (EndRel w G h out)
def Post (N:Nat) (D:List Deferred) (w:World) (G:Gm) (h:Heap) (ex:Ex) (s:St):Exit→Act→World→Prop:=fun e a' w'=>
 ∃ G',Sim w' G' s.h∧Goes w G h w' G' s.h∧EnvRel w' G' (dom s.h) s.env a'∧a'.tmps.size=N∧a'.defers=D ∧
  match ex with
  | .norm=>e=.normal
  | .exit id=>e=.exit id
  | .ret=>e=.ret
  | .pan v=>∃ x,e=.panic [{ v:=x,recovered:=false }]∧VRel w' G' (dom s.h) v x
theorem Post.from {N:Nat} {D:List Deferred} {w w1:World} {G G1:Gm} {h h1:Heap} {ex:Ex} {s:St} {e:Exit} {a:Act} {w':World} (g:Goes w G h w1 G1 h1) (p:Post N D w1 G1 h1 ex s e a w'):Post N D w G h ex s e a w':=by
 obtain ⟨G',k1,k2,k3⟩:=p
 exact ⟨G',k1,g.trans k2,k3⟩
theorem EnvRel.along {w w':World} {G G':Gm} {h h':Heap} {e:Env} {a:Act} (r:EnvRel w G (dom h) e a) (g:Goes w G h w' G' h'):EnvRel w' G' (dom h') e a:=fun t=>(r t).along g
theorem get_set (e:Env) (d t:Nat) (v:AV):get (set e d v) t=if t=d then v else get e t:=by
 simp only [set,get]
 by_cases c:d=t
 ·rw [if_pos c,if_pos c.symm]
 ·rw [if_neg c,if_neg (Ne.symm c)]
theorem EnvRel.put_ {w:World} {G:Gm} {L:Loc→Prop} {e:Env} {a:Act} (r:EnvRel w G L e a) {d:Option Nat} {v:AV} {x:Value} (hv:VRel w G L v x) (hd:inN a.tmps.size d=true) :
  EnvRel w G L (put e d v) (a.put d x):=by
 intro t
 cases d with
 | none=>exact r t
 | some d=>
  simp only [inN,decide_eq_true_eq] at hd
  simp only [put,Act.put,get_set]
  by_cases c:t=d
  ·subst c
   rw [if_pos rfl,Array.getD_eq_getD_getElem?,Array.getElem?_setIfInBounds,if_pos rfl,if_pos hd]
   exact hv
  ·rw [if_neg c,Array.getD_eq_getD_getElem?,Array.getElem?_setIfInBounds,if_neg (Ne.symm c),←Array.getD_eq_getD_getElem?]
   exact r t
theorem put_size (a:Act) (d:Option Nat) (x:Value):(a.put d x).tmps.size=a.tmps.size:=by cases d<;>simp [Act.put]
theorem put_defers (a:Act) (d:Option Nat) (x:Value):(a.put d x).defers=a.defers:=by cases d<;>rfl
theorem wanted_ok {w:World} {G:Gm} {L:Loc→Prop} {e:Env} {a:Act} (r:EnvRel w G L e a) {ops:Array Oper} {o:Oper} {g:Option (Nat×Bool)} (hg:cGuard ops o.guard=some g) {b:Bool} (hw:wanted g e=some b) :
  Region.wanted o (yielded ops a.tmps)=b:=by
 unfold Region.wanted
 cases hgd:o.guard with
 | none=>
  rw [hgd] at hg
  simp only [cGuard,Option.some.injEq] at hg
  subst hg
  simpa [wanted] using hw
 | some q=>
  obtain ⟨j,want⟩:=q
  rw [hgd] at hg
  simp only [cGuard] at hg
  cases hd:(ops[j]?).bind (·.dst) with
  | none=>simp [hd] at hg
  | some t=>
   simp only [hd,Option.some.injEq] at hg
   subst hg
   simp only [wanted] at hw
   have ht:=r t
   simp only [yielded,hd,Option.bind_some]
   have key:∀ y,a.tmps.getD t undef=y→y≠undef→a.tmps[t]?=some y:=fun y hy hne=>by
    rw [Array.getD_eq_getD_getElem?] at hy
    cases hq:a.tmps[t]? with
    | none=>rw [hq] at hy;exact absurd hy.symm hne
    | some z=>rw [hq] at hy;simpa using hy
   split at hw
   ·rename_i c hc
    injection hw with hw
    rw [hc] at ht
    have h1:=bool_shape ht
    rw [key _ h1 (by unfold undef;simp)]
    rw [←hw]
    cases c<;>cases want<;>rfl
   ·rename_i hc
    injection hw with hw
    rw [hc] at ht
    obtain ⟨vs,h1,h2,_⟩:=tup_shape ht
    have hvs:vs=#[]:=Array.eq_empty_of_size_eq_zero (by simpa using h2)
    subst hvs
    rw [Array.getD_eq_getD_getElem?] at h1
    subst hw
    cases hq:a.tmps[t]? with
    | none=>rfl
    | some z=>
     rw [hq] at h1
     simp only [Option.getD_some] at h1
     subst h1
     rfl
   ·cases hw
theorem mem_ok {H:Hints} {f:FuncId} {o:Oper} {q:MOp} {w:World} {G:Gm} {h:Heap} (s:Sim w G h) (hn:h≠[]) (hc:cOp P H f o=.m q) {e:Env} {a:Act} (he:EnvRel w G (dom h) e a)
  {K:Cfg} {O:Orc} (hq:isCall q=false) {v:AV} {h':Heap} (hev:evM K O q e h=some (.val v h')):MemOk P w G h a o v h':=by
 unfold cOp at hc
 cases hop:o.op with
 | assign x=>
  simp only [hop] at hc
  split at hc
  ·rename_i y hy
   split at hc
   ·injection hc with hc;subst hc
    simp only [evM] at hev
    have:=m_mat (P:=P) s hn he hop hy
    generalize matV (y.ev e) h=r at hev this
    obtain ⟨r1,r2⟩:=r
    injection hev with hev
    injection hev with e1 e2
    subst e1;subst e2
    exact this
   ·cases hc
  ·cases hc
 | alloc t=>
  simp only [hop] at hc
  split at hc
  ·rename_i ag sz z hsh hz
   split at hc
   ·rename_i hsz
    injection hc with hc;subst hc
    simp only [evM] at hev
    obtain ⟨i,zv,hi,hzv,hzz,hzl⟩:=zero_parts hz
    obtain ⟨d,i',_,hi',hisz,_⟩:=shape_parts hsh
    rw [hi] at hi'
    injection hi' with hi';subst hi'
    split at hev
    ·have:=m_allocM (P:=P) (a:=a) s hn hop hz (by omega)
     generalize matV z h=r at hev this
     obtain ⟨r1,r2⟩:=r
     simp only [Option.some.injEq,Out.val.injEq] at hev
     obtain ⟨rfl,rfl⟩:=hev
     exact this
    ·simp only [Option.some.injEq,Out.val.injEq] at hev
     obtain ⟨rfl,rfl⟩:=hev
     obtain ⟨x,w',G',k1,k2,k3,k4⟩:=m_alloc (P:=P) s hn hop hz (by omega)
     exact ⟨_,_,_,_,k1,.inl rfl,k2,k3,k4⟩
   ·split at hc
    ·injection hc with hc;subst hc
     simp only [evM,Option.some.injEq,Out.val.injEq] at hev
     obtain ⟨rfl,rfl⟩:=hev
     exact m_al0 s hn hop hz
    ·cases hc
  ·cases hc
 | box t x=>
  simp only [hop] at hc
  split at hc
  ·rename_i y ag sz hy hsh
   split at hc
   ·rename_i hsz
    split at hc
    ·rename_i k hk
     injection hc with hc;subst hc
     exact m_boxV s hn he hop hy k hsz hev
    split at hc
    ·rename_i k hk
     injection hc with hc;subst hc
     simp only [evM] at hev
     split at hev
     ·rename_i hl
      have:=m_boxK (P:=P) s hn he hop hy k (by omega)
      generalize matK k (y.ev e) h=r at hev this
      obtain ⟨r1,r2⟩:=r
      simp only [Option.some.injEq,Out.val.injEq] at hev
      obtain ⟨rfl,rfl⟩:=hev
      exact this
     ·cases hev
    ·injection hc with hc;subst hc
     simp only [evM] at hev
     split at hev
     ·rename_i hl
      injection hev with hev
      injection hev with e1 e2
      subst e1;subst e2
      obtain ⟨x,w',G',k1,k2,k3,k4⟩:=m_box (P:=P) s hn he hop hy (by omega)
      exact ⟨_,_,_,_,k1,.inl rfl,k2,k3,k4⟩
     ·cases hev
   ·cases hc
  ·cases hc
 | buildSlice t n ps=>
  simp only [hop] at hc
  split at hc
  ·rename_i el hu
   split at hc
   ·rename_i ag sz z s' hsh hz hps
    split at hc
    ·rename_i hb
     injection hc with hc;subst hc
     exact m_bldS s hn he hop hu hsh hz hps hb.1 hb.2 hev
    ·cases hc
   ·cases hc
  ·cases hc
 | load t x=>
  simp only [hop] at hc
  split at hc
  ·rename_i y ag sz hy hsh
   split at hc
   ·split at hc
    ·rename_i cc
     obtain ⟨rfl,rfl⟩:=cc
     injection hc with hc;subst hc
     simp only [evM] at hev
     exact m_ldQ s hn he hop hy hsh hev
    ·cases hc
   ·split at hc
    ·rename_i hsz
     injection hc with hc;subst hc
     simp only [evM] at hev
     split at hev
     ·rename_i u hu
      injection hev with hev
      injection hev with e1 e2
      subst e1;subst e2
      exact m_load s he hop hy hsh hsz hu
     ·cases hev
    ·cases hc
  ·cases hc
 | store t A x=>
  simp only [hop] at hc
  split at hc
  ·rename_i b y ag sz hb hy hsh
   split at hc
   ·split at hc
    ·rename_i hsz
     injection hc with hc;subst hc
     exact m_stV s hn he hop hb hy hsh hsz hev
    ·cases hc
   split at hc
   ·split at hc
    ·rename_i cc
     obtain ⟨rfl,rfl⟩:=cc
     injection hc with hc;subst hc
     simp only [evM] at hev
     split at hev
     ·rename_i h1 hst
      injection hev with hev
      injection hev with e1 e2
      subst e1;subst e2
      exact m_stQ s he hop hb hy hsh hst
     ·cases hev
    ·cases hc
   ·split at hc
    ·rename_i hsz
     injection hc with hc;subst hc
     exact m_store s hn he hop hb hy hsh hsz hev
    ·split at hc
     ·rename_i hsz
      subst hsz
      injection hc with hc;subst hc
      exact m_st0 s he hop hb hy hsh hev
     ·cases hc
  ·cases hc
 | convert s' d x=>
  simp only [hop] at hc
  split at hc
  ·cases hc
  ·cases hc
  ·rename_i y el hy hs hd
   split at hc
   ·rename_i hel
    injection hc with hc;subst hc
    simp only [evM] at hev
    split at hev
    ·rename_i es hes
     split at hev
     ·rename_i qs hqs
      injection hev with hev
      injection hev with e1 e2
      subst e1;subst e2
      exact m_b2s s he hop hy hs hel hd hes hqs
     ·cases hev
    ·cases hev
   ·cases hc
  ·rename_i y el hy hs hd
   split at hc
   ·rename_i hel
    injection hc with hc;subst hc
    simp only [evM] at hev
    split at hev
    ·rename_i qs hqs
     injection hev with hev
     injection hev with e1 e2
     subst e1;subst e2
     exact m_s2b s he hop hy hs hd hel hqs
    ·cases hev
   ·cases hc
  ·rename_i y t hy hs hd
   split at hc
   ·rename_i j hi
    split at hc
    ·rename_i hj
     injection hc with hc;subst hc
     exact m_cvU s he hop hy hs hd hi hj hev
    ·cases hc
   ·cases hc
  ·rename_i y t hy hs hd
   split at hc
   ·rename_i j hi
    split at hc
    ·rename_i hj
     injection hc with hc;subst hc
     exact m_cvP s he hop hy hs hd hi hj.1 hj.2.1 hj.2.2 hev
    ·cases hc
   ·cases hc
  ·cases hc
 | makeMap t r=>
  simp only [hop] at hc
  split at hc
  ·injection hc with hc;subst hc
   simp only [evM,Option.some.injEq,Out.val.injEq] at hev
   obtain ⟨rfl,rfl⟩:=hev
   exact m_mkM s hn hop (.inl rfl)
  ·split at hc
   ·rename_i k n _ kt et hu
    injection hc with hc;subst hc
    simp only [evM,Option.some.injEq,Out.val.injEq] at hev
    obtain ⟨rfl,rfl⟩:=hev
    exact m_mkM s hn hop (.inr ⟨_,_,rfl,_,_,hu⟩)
   ·cases hc
  ·cases hc
 | lookup t x k ok=>
  simp only [hop] at hc
  split at hc
  ·rename_i x' k' kt et hx hk hu
   split at hc
   ·rename_i kk z hkk hz
    injection hc with hc;subst hc
    exact m_lkp s he hop hx hk hu hkk hz hev
   ·cases hc
  ·cases hc
 | mapUpdate t x k v=>
  simp only [hop] at hc
  split at hc
  ·rename_i x' k' v' kt et hx hk hv hu
   split at hc
   ·rename_i kk hkk
    injection hc with hc;subst hc
    exact m_mup s he (.inl hop) hx hk hv hu hkk hev
   ·cases hc
  ·cases hc
 | insert t x k v=>
  simp only [hop] at hc
  split at hc
  ·rename_i x' k' v' kt et hx hk hv hu
   split at hc
   ·rename_i kk hkk
    injection hc with hc;subst hc
    exact m_mup s he (.inr hop) hx hk hv hu hkk hev
   ·cases hc
  ·cases hc
 | makeSlice t l c=>
  simp only [hop] at hc
  split at hc
  ·rename_i el l' c' hu hl hcc
   split at hc
   ·rename_i i z hi hz
    split at hc
    ·rename_i hsz
     split at hc
     ·injection hc with hc;subst hc
      exact m_mkSV s hn he hop hu hi hz hsz hl hcc hev
     split at hc
     ·injection hc with hc;subst hc
      exact m_mkSQ s hn he hop hu hi hz hsz hl hcc hev
     ·injection hc with hc;subst hc
      exact m_mkS s hn he hop hu hi hz hsz hl hcc hev
    ·cases hc
   ·cases hc
  ·cases hc
 | slice t x lo hi mx=>
  simp only [hop] at hc
  split at hc
  ·cases hc
  ·rename_i el y lo' hi' mx' hu hy hlo hhi hmx
   split at hc
   ·rename_i ag sz hsh
    injection hc with hc;subst hc
    exact m_slL s he hop hy hlo hhi hmx hu hsh hev
   ·cases hc
  ·rename_i n el y lo' hi' hu hy hlo hhi hmx
   split at hc
   ·rename_i ag sz hsh
    injection hc with hc;subst hc
    have hmx:mx=none:=by
     cases mx with
     | none=>rfl
     | some m=>simp only [cOpdO] at hmx;split at hmx<;>cases hmx
    subst hmx
    exact m_slA s he hop hy hlo hhi hu hsh hev
   ·cases hc
  ·cases hc
 | call c=>
  simp only [hop] at hc
  split at hc
  ·split at hc
   ·split at hc<;>cases hc
   ·split at hc
    ·injection hc with hc
     subst hc
     cases hq
    ·cases hc
  ·split at hc
   ·injection hc with hc
    subst hc
    cases hq
   ·cases hc
  ·rename_i x hcal hx
   split at hc
   ·rename_i el hu
    injection hc with hc;subst hc
    obtain ⟨x0,hl,hx0⟩:=cOpds_one hx
    exact m_usd s he hop hcal hl hx0 hu hev
   ·cases hc
  ·rename_i x k hcal hx
   split at hc
   ·rename_i pt it hts
    split at hc
    ·rename_i te hp
     split at hc
     ·rename_i hce
      injection hc with hc;subst hc
      obtain ⟨x0,k0,hl,hx0,hk0⟩:=cOpds_two hx
      exact m_ustr s he hop hcal hl hx0 hk0 hts hp hce hev
     ·cases hc
    ·cases hc
   ·cases hc
  ·rename_i x hcal hx
   split at hc
   ·rename_i t ht
    split at hc
    ·cases hc
    ·cases hc
    ·rename_i kt et hu
     injection hc with hc;subst hc
     obtain ⟨x0,hl,hx0⟩:=cOpds_one hx
     exact m_lenM s he hop hcal hl hx0 ht hu hev
    ·cases hc
   ·cases hc
  ·cases hc
  ·cases hc
  ·rename_i S X hcal hx
   have hargs:=cOpds_two hx
   obtain ⟨s0,x0,hl,hs0,hx0⟩:=hargs
   split at hc
   ·rename_i t u ht hu'
    split at hc
    ·rename_i el el' hu hu2
     split at hc
     ·rename_i i z hi hz
      split at hc
      ·rename_i hb
       obtain ⟨b1,b2⟩:=hb
       subst b2
       split at hc
       ·injection hc with hc;subst hc
        exact m_appV s hn he hop hcal hl hs0 hx0 ht hu' hu hi hz b1 hev
       split at hc
       ·injection hc with hc;subst hc
        exact m_appQ s hn he hop hcal hl hs0 hx0 ht hu' hu hi hz b1 hev
       ·injection hc with hc;subst hc
        exact m_app s hn he hop hcal hl hs0 hx0 ht hu' hu hi hz b1 hev
      ·cases hc
     ·cases hc
    ·rename_i el hu hu2
     split at hc
     ·rename_i i z hi hz
      split at hc
      ·rename_i hb
       injection hc with hc;subst hc
       exact m_appS s hn he hop hcal hl hs0 hx0 ht hu' hu hu2 hi hz hb hev
      ·cases hc
     ·cases hc
    ·cases hc
   ·cases hc
  ·cases hc
 | panic x=>
  simp only [hop] at hc
  split at hc
  ·injection hc with hc;subst hc
   simp only [evM] at hev
   split at hev<;>cases hev
  ·cases hc
 | move x=>simp only [hop] at hc;repeat' (first | (cases hc;done) | split at hc)
 | pick x y z=>simp only [hop] at hc;repeat' (first | (cases hc;done) | split at hc)
 | build t ps=>simp only [hop] at hc;repeat' (first | (cases hc;done) | split at hc)
 | nilCheck x=>simp only [hop] at hc;repeat' (first | (cases hc;done) | split at hc)
 | binOp b t x y u=>simp only [hop] at hc;repeat' (first | (cases hc;done) | split at hc)
 | unOp u t x=>simp only [hop] at hc;repeat' (first | (cases hc;done) | split at hc)
 | makeInterface t x=>simp only [hop] at hc;repeat' (first | (cases hc;done) | split at hc)
 | makeFunc t x y=>simp only [hop] at hc;repeat' (first | (cases hc;done) | split at hc)
 | fieldAddr t x y=>simp only [hop] at hc;repeat' (first | (cases hc;done) | split at hc)
 | field t x y=>simp only [hop] at hc;repeat' (first | (cases hc;done) | split at hc)
 | indexAddr t x y=>simp only [hop] at hc;repeat' (first | (cases hc;done) | split at hc)
 | index t x y=>simp only [hop] at hc;repeat' (first | (cases hc;done) | split at hc)
 | typeAssert x y z u=>simp only [hop] at hc;repeat' (first | (cases hc;done) | split at hc)
 | extract x y=>simp only [hop] at hc;repeat' (first | (cases hc;done) | split at hc)
 | _=>simp only [hop] at hc;cases hc
end Go.Ab
/-
  Regions, loops, calls: the evaluator is sound.
-/
namespace Go.Ab
open Go.RowKit
variable {P:Program}
theorem call_run {c:Call} {o:Oper} {a:Act} {gop:Operand} (ho:o.op=.call c) (hc:c.callee=.value gop) {g:FuncId} {va vb:Array Value} (hg:a.eval gop=.func (.func g) va vb) (hent:Enterable P g) (w:World) :
  (execOp a.eval o).run P w=.ok (.enter g (va++c.args.map a.eval++vb)) w:=by
 have:=hent (va++c.args.map a.eval++vb) w
 simp only [execOp,ho,resolve,hc,hg,Deferred.ofValue,Sem.run_bind,Sem.run_pure,Result.andThen_ok,invoke,this]
theorem append_rel {w:World} {G:Gm} {L:Loc→Prop} {x y:List AV} {u v:Array Value} (h:ArgsRel w G L x u) (k:ArgsRel w G L y v):ArgsRel w G L (x++y) (u++v):=by
 refine ⟨by simp [h.1,k.1],fun i hi=>?_⟩
 simp only [List.length_append] at hi
 have h1:=h.1
 by_cases c:i < x.length
 ·have e1:(x++y).getD i .top=x.getD i .top:=by simp only [List.getD_eq_getElem?_getD];rw [List.getElem?_append_left c]
  have e2:(u++v).getD i undef=u.getD i undef:=by simp only [Array.getD_eq_getD_getElem?];rw [Array.getElem?_append_left (by omega)]
  rw [e1,e2];exact h.2 i c
 ·have e1:(x++y).getD i .top=y.getD (i - x.length) .top:=by simp only [List.getD_eq_getElem?_getD];rw [List.getElem?_append_right (by omega)]
  have e2:(u++v).getD i undef=v.getD (i - x.length) undef:=by simp only [Array.getD_eq_getD_getElem?];rw [Array.getElem?_append_right (by omega),h1]
  rw [e1,e2];exact k.2 _ (by omega)
theorem call_shape {H:Hints} {f:FuncId} {o:Oper} {gf:Opd} {xs:List Opd} (hop:cOp P H f o=.m (.call gf xs)) :
  ∃ c gop,o.op=.call c∧c.callee=.value gop∧cOpd gop=some gf∧cOpds c.args.toList=some xs:=by
 unfold cOp at hop
 cases ho:o.op with
 | call c=>
  simp only [ho] at hop
  split at hop
  ·rename_i gop ys hcal hys
   split at hop
   ·split at hop<;>cases hop
   ·split at hop
    ·rename_i g' hg'
     injection hop with hop
     injection hop with e1 e2
     subst e1;subst e2
     exact ⟨c,gop,rfl,hcal,hg',hys⟩
    ·cases hop
  all_goals repeat' (first | (cases hop;done) | split at hop)
 | _=>simp only [ho] at hop;repeat' (first | (cases hop;done) | split at hop)
theorem op_call1 {O:Orc} (hO:FnSound P O) {H:Hints} {f:FuncId} {o:Oper} {gf:Opd} {xs:List Opd} (hop:cOp P H f o=.m (.call gf xs)) {K:Cfg} {w:World} {G:Gm} {h:Heap} {e:Env} {a:Act} {r:Out}
  (s:Sim w G h) (rr:EnvRel w G (dom h) e a) (hev:evM K O (.call gf xs) e h=some r) {Kp:Act→World→Prop} {Q:Exit→Act→World→Prop}
  (k:∀ en w',EndRel w G h r en w'→match en with
   | .returned x=>Kp (a.put o.dst x) w'
   | .panicked c=>Q (.panic c) a w'
   | .outgrown=>False):Oper.wp P o a w Kp Q:=by
 obtain ⟨c,gop,ho,hcal,hgop,hxs⟩:=call_shape hop
 simp only [evM] at hev
 split at hev
 ·rename_i gid first captured hgv
  split at hev
  ·rename_i vs h1 hvs
   have hrg:=opd_rel rr hgop
   rw [hgv] at hrg
   obtain ⟨va,vb,hgx,hla,hlb,hra,hrb⟩:=fn_shape hrg
   obtain ⟨q1,q2⟩:=opds_rel rr hxs
   have hargs:ArgsRel w G (dom h) (first++xs.map (·.ev e)++captured) (va++c.args.map a.eval++vb):=by
    refine append_rel (append_rel ⟨hla,hra⟩ ⟨by simp [q1],fun i hi=>?_⟩) ⟨hlb,hrb⟩
    have:=q2 i (by simpa using hi)
    have e1:(c.args.map a.eval).getD i undef=(c.args.toList.map a.eval).getD i undef:=by simp [Array.getD_eq_getD_getElem?]
    rw [e1];exact this
   obtain ⟨G1,k1,k2,k3,k4⟩:=views_ok _ (xs:=fun i=>(va++c.args.map a.eval++vb).getD i undef) s hargs.2 hvs
   obtain ⟨hent,hcl⟩:=hO gid vs h1 _ hev
   have hC:=hcl w G1 (va++c.args.map a.eval++vb) k1 ⟨by rw [hargs.1,k3],fun i hi=>k4 i (by rw [←k3];exact hi)⟩
   unfold Oper.wp
   rw [call_run ho hcal hgx hent w,Oper.upon_enter]
   refine hC.mono fun en w' hen=>?_
   have hen':EndRel w G h r en w':=by
    obtain ⟨G',l1,l2,l3⟩:=hen
    exact ⟨G',l1,k2.trans l2,l3⟩
   have:=k en w' hen'
   cases en with
   | returned x=>exact this
   | panicked c=>exact this
   | outgrown=>exact this.elim
  ·cases hev
 ·cases hev
theorem inv_shape {H:Hints} {f:FuncId} {o:Oper} {tbl:List (TypeId×FuncId)} {r:Opd} {xs:List Opd} (hop:cOp P H f o=.m (.inv tbl r xs)) :
  ∃ c recv name,o.op=.call c∧c.callee=.invoke recv name∧tbl=tblOf P name H.inv∧cOpd recv=some r∧cOpds c.args.toList=some xs:=by
 unfold cOp at hop
 cases ho:o.op with
 | call c=>
  simp only [ho] at hop
  split at hop
  ·split at hop
   ·split at hop<;>cases hop
   ·split at hop<;>cases hop
  ·rename_i recv name ys hcal hys
   split at hop
   ·rename_i r' hr'
    injection hop with hop
    injection hop with e1 e2 e3
    subst e1;subst e2;subst e3
    exact ⟨c,recv,name,rfl,hcal,rfl,hr',hys⟩
   ·cases hop
  all_goals repeat' (first | (cases hop;done) | split at hop)
 | _=>simp only [ho] at hop;repeat' (first | (cases hop;done) | split at hop)
theorem tbl_row {name:String} {t:TypeId} {g:FuncId}:∀ {ts:List TypeId},(tblOf P name ts).lookup t=some g→rowOf P name t=some g
 | [],h=>by simp [tblOf] at h
 | u :: ts,h=>by
  unfold tblOf at h
  simp only [List.filterMap_cons] at h
  cases hr:rowOf P name u with
  | none=>rw [hr] at h;exact tbl_row (ts:=ts) h
  | some g'=>
   rw [hr] at h
   simp only [Option.map_some,List.lookup_cons] at h
   split at h
   ·rename_i e
    have e:t=u:=by simpa using e
    subst e
    rw [hr]
    exact h
   ·exact tbl_row (ts:=ts) h
theorem run_row {name:String} {t:TypeId} {g:FuncId} (h:rowOf P name t=some g) (n:Nat) (v:Value) (w:World):(method (n+1) t v name).run P w=.ok (g,v) w:=by
 unfold rowOf at h
 split at h
 ·rename_i i d hi hd
  split at h
  ·cases h
  ·rename_i hnp
   split at h
   ·rename_i m hm
    split at h
    ·rename_i hpath
     split at h
     ·rename_i g' hf
      injection h with h
      subst h
      have e1:(typeInfo t).run P w=.ok i w:=by simp [typeInfo,hi]
      have e2 : (receiverAt t (.val v) false (if m.path.isEmpty then some ((name.splitOn ".").getLastD name) else none)).run P w = .ok v w := by
       unfold receiverAt
       simp only [Sem.run_bind,run_underlying hd,Result.andThen_ok]
       cases d<;>first | (exact absurd rfl (hnp _)) | rfl
      rw [hpath] at e2
      have e3:(follow [] t (.val v)).run P w=.ok (t,.val v) w:=rfl
      unfold method
      simp only [Sem.run_bind,e1,Result.andThen_ok,hm,hpath,Array.toList_empty,e3,hf,e2]
      rfl
     ·cases h
    ·cases h
   ·cases h
 ·cases h
theorem inv_run {c:Call} {o:Oper} {a:Act} {recv:Operand} {name:String} (ho:o.op=.call c) (hc:c.callee=.invoke recv name) {t:TypeId} {v:Value} (hg:a.eval recv=.iface t v) {g:FuncId} (hrow:rowOf P name t=some g) (hent:Enterable P g) (w:World) :
  (execOp a.eval o).run P w=.ok (.enter g (#[v]++c.args.map a.eval)) w:=by
 have h1:=hent (#[v]++c.args.map a.eval) w
 have h2:=fun n=>run_row hrow n v w
 have h3:((#[Value.iface t v]:Array Value)++c.args.map a.eval).extract 1 ((#[Value.iface t v]:Array Value)++c.args.map a.eval).size=c.args.map a.eval:=by
  apply Array.ext'
  simp
  exact List.take_of_length_le (by simp)
 have h4:(method (P.types.size+Made.depth) t v name).run P w=.ok (g,v) w:=h2 (P.types.size+(Made.depth - 1))
 simp only [execOp,ho,resolve,hc,hg,Sem.run_bind,Sem.run_pure,Result.andThen_ok,invoke]
 have h5:((#[Value.iface t v]:Array Value)++c.args.map a.eval)[0]?=some (.iface t v):=by
  rw [Array.getElem?_append_left (by simp)]
  rfl
 have h6:(callMethod (.iface t v) name (c.args.map a.eval)).run P w=.ok (.enter g (#[v]++c.args.map a.eval)) w:=by
  simp only [callMethod,Sem.run_bind,run_program,Result.andThen_ok,h4,h1]
 rw [h5,h3]
 exact h6
theorem op_call {O:Orc} (hO:FnSound P O) {H:Hints} {f:FuncId} {o:Oper} {q:MOp} (hop:cOp P H f o=.m q) (hq:isCall q=true) {K:Cfg} {w:World} {G:Gm} {h:Heap} {e:Env} {a:Act} {r:Out}
  (s:Sim w G h) (rr:EnvRel w G (dom h) e a) (hev:evM K O q e h=some r) {Kp:Act→World→Prop} {Q:Exit→Act→World→Prop}
  (k:∀ en w',EndRel w G h r en w'→match en with
   | .returned x=>Kp (a.put o.dst x) w'
   | .panicked c=>Q (.panic c) a w'
   | .outgrown=>False):Oper.wp P o a w Kp Q:=by
 cases q<;>try (cases hq;done)
 case call gf xs=>exact op_call1 hO hop s rr hev k
 case inv tbl x xs=>
  obtain ⟨c,recv,name,ho,hcal,rfl,hrecv,hxs⟩:=inv_shape hop
  simp only [evM] at hev
  split at hev
  ·rename_i t v hxv
   split at hev
   ·rename_i gid hlk
    split at hev
    ·rename_i vs h1 hvs
     have hrg:=opd_rel rr hrecv
     rw [hxv] at hrg
     obtain ⟨y,hgx,hy⟩:∃ y,a.eval recv=.iface t y∧VRel w G (dom h) v y:=by
      generalize a.eval recv=xv at hrg
      cases hrg with
      | iface _ _ _ y hy=>exact ⟨y,rfl,hy⟩
     obtain ⟨q1,q2⟩:=opds_rel rr hxs
     have hargs:ArgsRel w G (dom h) (v :: xs.map (·.ev e)) (#[y]++c.args.map a.eval):=by
      have:=append_rel (w:=w) (G:=G) (L:=dom h) (x:=[v]) (y:=xs.map (·.ev e)) (u:=#[y]) (v:=c.args.map a.eval) ⟨rfl,fun i hi=>by
       match i,hi with
       | 0,_=>exact hy
       | i+1,hi=>simp at hi⟩ ⟨by simp [q1],fun i hi=>?_⟩
      ·exact this
      ·have:=q2 i (by simpa using hi)
       have e1:(c.args.map a.eval).getD i undef=(c.args.toList.map a.eval).getD i undef:=by simp [Array.getD_eq_getD_getElem?]
       rw [e1];exact this
     obtain ⟨G1,k1,k2,k3,k4⟩:=views_ok _ (xs:=fun i=>(#[y]++c.args.map a.eval).getD i undef) s hargs.2 hvs
     obtain ⟨hent,hcl⟩:=hO gid vs h1 _ hev
     have hC:=hcl w G1 (#[y]++c.args.map a.eval) k1 ⟨by rw [hargs.1,k3],fun i hi=>k4 i (by rw [←k3];exact hi)⟩
     unfold Oper.wp
     rw [inv_run ho hcal hgx (tbl_row hlk) hent w,Oper.upon_enter]
     refine hC.mono fun en w' hen=>?_
     have hen':EndRel w G h r en w':=by
      obtain ⟨G',l1,l2,l3⟩:=hen
      exact ⟨G',l1,k2.trans l2,l3⟩
     have:=k en w' hen'
     cases en with
     | returned x=>exact this
     | panicked c=>exact this
     | outgrown=>exact this.elim
    ·cases hev
   ·cases hev
  ·cases hev
theorem evOps_ok {O:Orc} (hO:FnSound P O) {H:Hints} {f:FuncId} {N:Nat} {D:List Deferred} {K:Cfg} {ops:Array Oper}:∀ (l:List Oper) (st:St) (ex:Ex) (st':St),evOps K O (l.map (cOper P H f N ops)) st=some (ex,st') →
  ∀ (w0:World) (G0:Gm) (h0:Heap) (w:World) (G:Gm) (a:Act),Goes w0 G0 h0 w G st.h→Sim w G st.h→st.h≠[]→EnvRel w G (dom st.h) st.env a→a.tmps.size=N→a.defers=D →
  wpList P ops (Post N D w0 G0 h0 ex st') l a w
 | [],st,ex,st',he,w0,G0,h0,w,G,a,g,s,hn,r,hN,hd=>by
  simp only [List.map_nil,evOps,Option.some.injEq,Prod.mk.injEq] at he
  obtain ⟨rfl,rfl⟩:=he
  exact wpList_nil ⟨G,s,g,r,hN,hd,rfl⟩
 | o :: l,st,ex,st',he,w0,G0,h0,w,G,a,g,s,hn,r,hN,hd=>by
  simp only [List.map_cons,evOps] at he
  have hbad:∀ c:CO,c=cOper P H f N ops o→(c.op=.bad→False)→∃ gd,cGuard ops o.guard=some gd∧inN N o.dst=true∧c={ dst:=o.dst,gd:=gd,op:=cOp P H f o }:=fun c hc hb=>by
   unfold cOper at hc
   split at hc
   ·subst hc;exact absurd rfl hb
   ·rename_i gd hgd
    split at hc
    ·rename_i hin;exact ⟨gd,hgd,hin,hc⟩
    ·subst hc;exact absurd rfl hb
  have hshape:(cOper P H f N ops o).dst=o.dst:=by unfold cOper;split<;>(try split)<;>rfl
  unfold wpList
  split at he
  ·cases he
  ·
   rename_i hw
   have hcase:(∃ gd,cGuard ops o.guard=some gd∧inN N o.dst=true∧cOper P H f N ops o={ dst:=o.dst,gd:=gd,op:=cOp P H f o })∨(cOper P H f N ops o).gd=none:=by
    unfold cOper
    split
    ·exact .inr rfl
    ·rename_i gd hgd
     split
     ·rename_i hin;exact .inl ⟨gd,hgd,hin,rfl⟩
     ·exact .inr rfl
   rcases hcase with ⟨gd,hgd,hin,hco⟩ | hb
   ·rw [hco] at hw he
    have hwt:=wanted_ok r hgd hw
    rw [if_neg (by rw [hwt];simp)]
    exact evOps_ok hO l _ ex st' he w0 G0 h0 w G _ g s hn (r.put_ (x:=undef) (.tup _ _ _ rfl fun i hi=>by simp at hi) (by rw [hN];exact hin)) (by rw [put_size];exact hN) (by rw [put_defers];exact hd)
   ·rw [hb] at hw
    simp [wanted] at hw
  ·rename_i hw
   have hnb:(cOper P H f N ops o).op≠.bad:=fun hb=>by rw [hb] at he;cases he
   obtain ⟨gd,hgd,hin,hco⟩:=hbad _ rfl (fun hb=>hnb hb)
   rw [hco] at hw he
   simp only at he
   have hwt:=wanted_ok r hgd hw
   rw [if_pos hwt]
   refine .inl ?_
   have next:∀ {x:Value} {v:AV} {w':World} {G':Gm} {h':Heap},Sim w' G' h'→Goes w G st.h w' G' h'→VRel w' G' (dom h') v x→evOps K O (l.map (cOper P H f N ops)) { env:=put st.env o.dst v,h:=h' }=some (ex,st') →
     wpList P ops (Post N D w0 G0 h0 ex st') l (a.put o.dst x) w':=fun s' g' v' he'=>
    evOps_ok hO l _ ex st' he' w0 G0 h0 _ _ _ (g.trans g') s' (fun e0=>by have:=g'.depth;simp only at e0;rw [e0] at this;cases hs:st.h<;>simp_all) ((r.along g').put_ v' (by rw [hN];exact hin)) (by rw [put_size];exact hN) (by rw [put_defers];exact hd)
   cases hop:cOp P H f o with
   | bad=>rw [hop] at he;simp only at he;cases he
   | p q=>
    rw [hop] at he
    simp only at he
    split at he
    ·rename_i v hv
     obtain ⟨x,hx,hvx⟩:=pure_ok hop r hv
     unfold Oper.wp
     rw [hx]
     exact next s (Goes.refl w G st.h) hvx he
    ·cases he
   | m q=>
    rw [hop] at he
    simp only at he
    by_cases hcall:isCall q=true
    ·
     split at he
     ·rename_i v h' hev
      refine op_call hO hop hcall s r hev fun en w' hen=>?_
      obtain ⟨G',l1,l2,x,rfl,l3⟩:=hen
      exact next l1 l2 l3 he
     ·rename_i v h' hev
      injection he with he
      injection he with e1 e2
      subst e1;subst e2
      refine op_call hO hop hcall s r hev fun en w' hen=>?_
      obtain ⟨G',l1,l2,x,rfl,l3⟩:=hen
      exact ⟨G',l1,g.trans l2,r.along l2,hN,hd,x,rfl,l3⟩
     ·cases he
    ·have hq:isCall q=false:=by simpa using hcall
     split at he
     ·rename_i v h' hev
      obtain ⟨nx,x,w',G',k1,k2,k3,k4,k5⟩:=mem_ok s hn hop r hq hev
      unfold Oper.wp
      rw [k1]
      rcases k2 with rfl | ⟨rfl,rfl⟩
      ·exact next k3 k4 k5 he
      ·exact next k3 k4 k5 he
     ·rename_i v h' hev
      injection he with he
      injection he with e1 e2
      subst e1;subst e2
      have hp:∃ x y,o.op=.panic x∧cOpd x=some y∧q=.pan y:=by
       cases q<;>simp only [evM] at hev
       case pan y=>
        unfold cOp at hop
        cases ho:o.op with
        | panic x=>
         simp only [ho] at hop
         split at hop
         ·rename_i y' hy'
          injection hop with hop
          injection hop with e1
          subst e1
          exact ⟨x,y',rfl,hy',rfl⟩
         ·cases hop
        | _=>simp only [ho] at hop;repeat' (first | (cases hop;done) | split at hop)
       case call gf xs=>cases hq
       case inv tbl x xs=>cases hq
       all_goals repeat' (first | (cases hev;done) | split at hev | unfold appTo at hev | unfold ldQ at hev | unfold appToQ at hev | unfold toQ at hev | unfold appToV at hev | unfold toV at hev)
      obtain ⟨x,y,ho,hy,rfl⟩:=hp
      simp only [evM] at hev
      split at hev
      ·rename_i t u hyu
       injection hev with hev
       injection hev with e1 e2
       subst e1;subst e2
       obtain ⟨rv,k1,k2⟩:=m_pan (P:=P) r ho hy hyu
       unfold Oper.wp
       rw [k1,Oper.upon_panic]
       exact ⟨G,s,g,r,hN,hd,rv,rfl,k2⟩
      ·cases hev
     ·cases he
end Go.Ab
