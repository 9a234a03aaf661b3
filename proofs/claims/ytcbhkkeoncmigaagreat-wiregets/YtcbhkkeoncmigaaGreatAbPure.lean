/-
  Abstract memory and the model's: what each place's block holds; how both go on together.
-/
import Derived.Test.YtcbhkkeoncmigaaGreatAbRel
import Derived.Orders
set_option linter.unusedVariables false
set_option linter.unusedSimpArgs false
namespace Go.Ab
def dom (h:Heap) (a:Loc):Prop:=(hget h a).isSome=true
instance (h:Heap) (a:Loc):Decidable (dom h a):=inferInstanceAs (Decidable (_=true))
def domTo (h:Heap) (l:Nat) (a:Loc):Prop:=a.1≤l∧dom h a
theorem dom_of {h:Heap} {a:Loc} {B:Blk} (e:hget h a=some B):dom h a:=by unfold dom;rw [e];rfl
theorem of_dom {h:Heap} {a:Loc} (e:dom h a):∃ B,hget h a=some B:=Option.isSome_iff_exists.1 e
def ASim (w:World) (G:Gm) (a:Loc) (t:TypeId) (sz:Nat) (vw:Bool) (es:List AV):Prop:=
 G.len a=some es.length∧((G.blk a=none∧es=[]) ∨
   ∃ b c,G.blk a=some b∧w.heap[b]?=some (.cells c t (0,0))∧c.size=G.cap a * sz∧0 < sz∧es.length≤G.cap a∧G.cap a≤maxLen ∧
    (∀ i,i < es.length→(es.getD i .top).cells.length=sz∧∀ j,j < sz→(c.getD (i * sz+j) undef).oneCell'=true ∧
     VRel w G NoLoc ((es.getD i .top).cells.getD j .top) (c.getD (i * sz+j) undef)) ∧
    (∀ o,G.imm b o→vw=true∧o < es.length * sz))
def Tails (w:World) (G:Gm) (a:Loc) (t:TypeId) (sz k:Nat) (ti:TypeId) (si:Nat) (out:List Nat) (es:List AV):Prop:=
 k < sz∧0 < si∧∀ b c i q ks,G.blk a=some b→w.heap[b]?=some (.cells c t (0,0))→i < es.length→out.contains i=false→(es.getD i .top).cells.getD k .top=.lst (q :: ks) →
  ∃ b' cap c',c.getD (i * sz+k) undef=.slice (some ⟨b',0,none⟩) (ks.length+1) cap∧G.tl b'=some (a,i)∧w.heap[b']?=some (.cells c' ti (0,0))∧c'.size=cap * si∧ks.length+1≤cap∧cap≤maxLen ∧
   (∀ o,G.imm b' o→o < (ks.length+1) * si)∧(∀ j,j < ks.length+1→((q :: ks).getD j .top).cells.length=si∧∀ j',j' < si→(c'.getD (j * si+j') undef).oneCell'=true ∧
    VRel w G NoLoc (((q :: ks).getD j .top).cells.getD j' .top) (c'.getD (j * si+j') undef))
def VSim (w:World) (G:Gm) (L:Loc→Prop) (a:Loc) (t:TypeId) (sz:Nat) (es:List AV):Prop:=
 G.len a=some es.length∧((G.blk a=none∧es=[]) ∨
   ∃ b c,G.blk a=some b∧w.heap[b]?=some (.cells c t (0,0))∧c.size=G.cap a * sz∧0 < sz∧es.length≤G.cap a∧G.cap a≤maxLen ∧
    (∀ i,i < es.length→(es.getD i .top).cells.length=sz∧∀ j,j < sz→(c.getD (i * sz+j) undef).oneCell'=true ∧
     VRel w G L ((es.getD i .top).cells.getD j .top) (c.getD (i * sz+j) undef)) ∧
    (∀ o,¬ G.imm b o))
def BSim (w:World) (G:Gm) (L:Loc→Prop) (a:Loc):Blk→Prop
 | .box t fz v=>∃ b c,G.len a=none∧G.blk a=some b∧w.heap[b]?=some (.cells c t (0,0))∧c.size=v.cells.length ∧
   (∀ j,j < c.size→(c.getD j undef).oneCell'=true∧VRel w G L (v.cells.getD j .top) (c.getD j undef))∧(∀ o,G.imm b o→fz=true)
 | .arr t sz vw es=>G.len a=some es.length∧((G.blk a=none∧es=[]) ∨
   ∃ b c,G.blk a=some b∧w.heap[b]?=some (.cells c t (0,0))∧c.size=G.cap a * sz∧0 < sz∧es.length≤G.cap a∧G.cap a≤maxLen ∧
    (∀ i,i < es.length→(es.getD i .top).cells.length=sz∧∀ j,j < sz→(c.getD (i * sz+j) undef).oneCell'=true ∧
     VRel w G NoLoc ((es.getD i .top).cells.getD j .top) (c.getD (i * sz+j) undef)) ∧
    (∀ o,G.imm b o→vw=true∧o < es.length * sz))
 | .map es=>∃ b entries clock,G.len a=none∧G.blk a=some b∧w.heap[b]?=some (.map entries clock)∧entries.size=es.length ∧
   (∀ i,i < es.length→VRel w G NoLoc (es.getD i (.top,.top)).1 (entries.getD i default).key∧VRel w G L (es.getD i (.top,.top)).2 (entries.getD i default).val)
 | .dead=>∀ b,G.blk a=some b→b < w.heap.size
 | .arq t sz k ti si out es=>ASim w G a t sz false es∧Tails w G a t sz k ti si out es
 | .arv t sz es=>VSim w G L a t sz es
def Held (G:Gm) (h:Heap) (b:Nat):Prop:=(∃ a,dom h a∧G.blk a=some b)∨G.tl b≠none
theorem Held.of {G:Gm} {h:Heap} {a:Loc} {b:Nat} (ha:dom h a) (e:G.blk a=some b):Held G h b:=.inl ⟨a,ha,e⟩
structure Sim (w:World) (G:Gm) (h:Heap):Prop where
 blk:∀ a B,hget h a=some B→BSim w G (domTo h a.1) a B
 inj:∀ a a' b,dom h a→dom h a'→G.blk a=some b→G.blk a'=some b→a=a'
 imm:∀ b o,G.imm b o→b < w.heap.size
 prv:∀ b x,G.tl b=some x→b < w.heap.size∧∀ a,dom h a→G.blk a≠some b
structure Goes (w:World) (G:Gm) (h:Heap) (w':World) (G':Gm) (h':Heap):Prop where
 os:w'.os=w.os
 tape:w'.tape=w.tape
 output:w'.output=w.output
 size:w.heap.size≤w'.heap.size
 heap:∀ b,b < w.heap.size→¬ Held G h b→w'.heap[b]?=w.heap[b]?
 img:∀ b,Held G' h' b→b < w.heap.size→Held G h b
 imm:ImmKept w G w' G'
 loc:∀ a,dom h a→dom h' a∧Agree G G' a
 depth:h'.length=h.length
 frame:hlen h≤hlen h'
 nimm:∀ b o,b < w.heap.size→¬ Held G h b→G'.imm b o→G.imm b o
theorem Goes.refl (w:World) (G:Gm) (h:Heap):Goes w G h w G h:=
 ⟨rfl,rfl,rfl,Nat.le_refl _,fun _ _ _=>rfl,fun b hb _=>hb,ImmKept.refl w G,fun a ha=>⟨ha,Agree.refl G a⟩,rfl,Nat.le_refl _,fun _ _ _ _ hi=>hi⟩
theorem ImmKept.trans {w w' w'':World} {G G' G'':Gm} (h:ImmKept w G w' G') (k:ImmKept w' G' w'' G''):ImmKept w G w'' G'':=fun b o hi=>by
 obtain ⟨h1,h2⟩:=h b o hi
 obtain ⟨k1,k2⟩:=k b o h1
 exact ⟨k1,k2.trans h2⟩
theorem Goes.trans {w w' w'':World} {G G' G'':Gm} {h h' h'':Heap} (x:Goes w G h w' G' h') (y:Goes w' G' h' w'' G'' h''):Goes w G h w'' G'' h'' where
 os:=y.os.trans x.os
 tape:=y.tape.trans x.tape
 output:=y.output.trans x.output
 size:=Nat.le_trans x.size y.size
 heap b hb hn:=by
  rw [y.heap b (Nat.lt_of_lt_of_le hb x.size) fun k=>hn (x.img b k hb),x.heap b hb hn]
 img b k hb:=x.img b (y.img b k (Nat.lt_of_lt_of_le hb x.size)) hb
 imm:=x.imm.trans y.imm
 loc a ha:=by
  obtain ⟨h1,h2⟩:=x.loc a ha
  obtain ⟨k1,k2⟩:=y.loc a h1
  exact ⟨k1,h2.trans k2⟩
 depth:=y.depth.trans x.depth
 frame:=Nat.le_trans x.frame y.frame
 nimm b o hb hn hi:=x.nimm b o hb hn (y.nimm b o (Nat.lt_of_lt_of_le hb x.size) (fun k=>hn (x.img b k hb)) hi)
theorem VRel.along {w w':World} {G G':Gm} {h h':Heap} {v:AV} {x:Value} (r:VRel w G (dom h) v x) (y:Goes w G h w' G' h'):VRel w' G' (dom h') v x:=
 r.mono y.imm y.loc
/- Places. -/
theorem hget_lt:∀ {h:Heap} {a:Loc} {B:Blk},hget h a=some B→a.1 < h.length
 | [],a,B,e=>by simp [hget] at e
 | f :: o,a,B,e=>by
  unfold hget at e
  split at e
  ·rename_i hl;rw [hl];simp
  ·have:=hget_lt e;simp;omega
theorem hget_hset:∀ (h:Heap) (a a':Loc) (B:Blk),hget (hset h a B) a'=if a'=a∧dom h a then some B else hget h a'
 | [],a,a',B=>by simp [hset,hget,dom]
 | f :: o,a,a',B=>by
  unfold hset
  by_cases hl:a.1=o.length
  ·simp only [hl,if_true,hget,List.length_set,dom]
   by_cases hl':a'.1=o.length
   ·simp only [hl',if_true]
    rw [List.getElem?_set]
    by_cases h2:a.2=a'.2
    ·have e:a'=a:=Prod.ext (hl'.trans hl.symm) h2.symm
     subst e
     by_cases hlt:a'.2 < f.length
     ·simp [hlt,hl']
     ·simp [hlt,hl',List.getElem?_eq_none (Nat.le_of_not_lt hlt)]
    ·rw [if_neg h2,if_neg]
     rintro ⟨e,_⟩
     exact h2 (by rw [e])
   ·have hne:a'≠a:=fun e=>hl' (by rw [e,hl])
    simp [hl',hne]
  ·have ih:=hget_hset o a a' B
   have hlen:(hset o a B).length=o.length:=by
    clear ih hl
    induction o with
    | nil=>rfl
    | cons g o ih=>unfold hset;split<;>simp_all
   simp only [hl,if_false,hget,hlen,dom]
   by_cases hl':a'.1=o.length
   ·have hne:a'≠a:=fun e=>hl (by rw [←e,hl'])
    simp [hl',hne]
   ·have hd:hget (f :: o) a=hget o a:=by rw [hget,if_neg hl]
    simp only [hl',if_false,ih]
    by_cases c:a'=a∧dom o a
    ·rw [if_pos c,if_pos]
     refine ⟨c.1,?_⟩
     have:=c.2
     first | exact this | (unfold dom;rw [hd];exact this)
    ·rw [if_neg c,if_neg]
     intro e
     refine c ⟨e.1,?_⟩
     have:=e.2
     first | exact this | (unfold dom at this;rw [hd] at this;exact this)
theorem hset_length:∀ (h:Heap) (a:Loc) (B:Blk),(hset h a B).length=h.length
 | [],a,B=>rfl
 | f :: o,a,B=>by
  unfold hset
  split
  ·simp
  ·simp [hset_length o a B]
theorem hlen_hset (h:Heap) (a:Loc) (B:Blk):hlen (hset h a B)=hlen h:=by
 cases h with
 | nil=>rfl
 | cons f o=>unfold hset;split<;>simp [hlen]
theorem dom_hset (h:Heap) (a a':Loc) (B:Blk):dom (hset h a B) a'↔dom h a':=by
 unfold dom
 rw [hget_hset]
 by_cases e:a'=a∧dom h a
 ·rw [if_pos e]
  obtain ⟨rfl,hd⟩:=e
  simp only [Option.isSome_some,true_iff]
  exact hd
 ·rw [if_neg e]
theorem hnext_fresh:∀ (h:Heap),hget h (hnext h)=none
 | []=>rfl
 | f :: o=>by simp [hnext,hget]
theorem hget_hnew:∀ (h:Heap) (a:Loc) (B:Blk),h≠[]→hget (hnew h B) a=if a=hnext h then some B else hget h a
 | [],a,B,hn=>absurd rfl hn
 | f :: o,a,B,_=>by
  simp only [hnew,hget,hnext]
  by_cases hl:a.1=o.length
  ·simp only [hl,if_true]
   by_cases h2:a.2=f.length
   ·have e:a=(o.length,f.length):=Prod.ext hl h2
    simp [e]
   ·have hne:a≠(o.length,f.length):=fun e=>h2 (by rw [e])
    rw [if_neg hne,List.getElem?_append]
    split
    ·rfl
    ·rw [List.getElem?_eq_none (by simp;omega),List.getElem?_eq_none (by omega)]
  ·have hne:a≠(o.length,f.length):=fun e=>hl (by rw [e])
   simp [hl,hne]
theorem hnew_length (h:Heap) (B:Blk):(hnew h B).length=h.length:=by cases h<;>rfl
theorem hlen_hnew (h:Heap) (B:Blk):hlen h≤hlen (hnew h B):=by cases h<;>simp [hlen,hnew]
theorem dom_hnew {h:Heap} (hn:h≠[]) (a:Loc) (B:Blk):dom (hnew h B) a↔a=hnext h∨dom h a:=by
 unfold dom
 rw [hget_hnew h a B hn]
 by_cases e:a=hnext h
 ·simp [e]
 ·simp [e]
theorem hnext_level {h:Heap} (hn:h≠[]):(hnext h).1+1=h.length:=by
 cases h with
 | nil=>exact absurd rfl hn
 | cons f o=>simp [hnext]
theorem ASim.kept {w w':World} {G G':Gm} {a:Loc} {t:TypeId} {sz:Nat} {vw:Bool} {es:List AV} (h:ASim w G a t sz vw es) (hI:ImmKept w G w' G')
  (ha:G'.blk a=G.blk a∧G'.len a=G.len a∧G'.cap a=G.cap a) (hb:∀ b,G.blk a=some b→w'.heap[b]?=w.heap[b]?) (hi:∀ b o,G.blk a=some b→G'.imm b o→G.imm b o):ASim w' G' a t sz vw es:=by
 obtain ⟨a1,a2,a3⟩:=ha
 obtain ⟨h0,h⟩:=h
 refine ⟨a2.trans h0,?_⟩
 rcases h with ⟨h1,h2⟩ | ⟨b,c,h1,h2,h3,h4,h5,h6,h7,h8⟩
 ·exact .inl ⟨a1.trans h1,h2⟩
 ·refine .inr ⟨b,c,a1.trans h1,(hb b h1).trans h2,by rw [a3];exact h3,h4,by rw [a3];exact h5,by rw [a3];exact h6,fun i hi'=>⟨(h7 i hi').1,fun j hj=>?_⟩,fun o ho=>h8 o (hi b o h1 ho)⟩
  obtain ⟨k1,k2⟩:=(h7 i hi').2 j hj
  exact ⟨k1,k2.mono hI fun _ e=>e.elim⟩
theorem BSim.kept {w w':World} {G G':Gm} {L L':Loc→Prop} {a:Loc} {B:Blk} (h:BSim w G L a B) (hI:ImmKept w G w' G') (hL:∀ a,L a→L' a∧Agree G G' a)
  (ha:G'.blk a=G.blk a∧G'.len a=G.len a∧G'.cap a=G.cap a) (hb:∀ b,G.blk a=some b→w'.heap[b]?=w.heap[b]?)
  (hi:∀ b o,G.blk a=some b→G'.imm b o→G.imm b o) (ht:∀ b i,G.tl b=some (a,i)→G'.tl b=some (a,i)∧w'.heap[b]?=w.heap[b]?∧∀ o,G'.imm b o→G.imm b o):BSim w' G' L' a B:=by
 obtain ⟨a1,a2,a3⟩:=ha
 have hA:∀ {t:TypeId} {sz:Nat} {vw:Bool} {es:List AV},ASim w G a t sz vw es→ASim w' G' a t sz vw es:=fun k=>k.kept hI ⟨a1,a2,a3⟩ hb hi
 cases B with
 | box t fz v=>
  obtain ⟨b,c,h1,h2,h3,h4,h5,h6⟩:=h
  exact ⟨b,c,a2.trans h1,a1.trans h2,(hb b h2).trans h3,h4,fun j hj=>⟨(h5 j hj).1,(h5 j hj).2.mono hI hL⟩,fun o ho=>h6 o (hi b o h2 ho)⟩
 | arr t sz vw es=>
  obtain ⟨h0,h⟩:=h
  refine ⟨a2.trans h0,?_⟩
  rcases h with ⟨h1,h2⟩ | ⟨b,c,h1,h2,h3,h4,h5,h6,h7,h8⟩
  ·exact .inl ⟨a1.trans h1,h2⟩
  ·refine .inr ⟨b,c,a1.trans h1,(hb b h1).trans h2,by rw [a3];exact h3,h4,by rw [a3];exact h5,by rw [a3];exact h6,fun i hi'=>⟨(h7 i hi').1,fun j hj=>?_⟩,fun o ho=>h8 o (hi b o h1 ho)⟩
   obtain ⟨k1,k2⟩:=(h7 i hi').2 j hj
   exact ⟨k1,k2.mono hI fun _ e=>e.elim⟩
 | map es=>
  obtain ⟨b,en,ck,h1,h2,h3,h4,h5⟩:=h
  exact ⟨b,en,ck,a2.trans h1,a1.trans h2,(hb b h2).trans h3,h4,fun i hi'=>⟨(h5 i hi').1.mono hI fun _ e=>e.elim,(h5 i hi').2.mono hI hL⟩⟩
 | dead=>
  intro b hb'
  rw [a1] at hb'
  have h1:=h b hb'
  have h2:=hb b hb'
  rw [Array.getElem?_eq_getElem h1] at h2
  exact (Array.getElem?_eq_some_iff.1 h2).1
 | arq t sz k ti si out es=>
  obtain ⟨h1,h2,h3,h4⟩:=h
  refine ⟨hA h1,h2,h3,fun b c i q ks e1 e2 e3 e4 e5=>?_⟩
  rw [a1] at e1
  rw [hb b e1] at e2
  obtain ⟨b',cap,c',k1,k2,k3,k4,k5,k6,k7,k8⟩:=h4 b c i q ks e1 e2 e3 e4 e5
  obtain ⟨l1,l2,l3⟩:=ht b' i k2
  exact ⟨b',cap,c',k1,l1,l2.trans k3,k4,k5,k6,fun o ho=>k7 o (l3 o ho),fun j hj=>⟨(k8 j hj).1,fun j' hj'=>⟨((k8 j hj).2 j' hj').1,((k8 j hj).2 j' hj').2.mono hI fun _ e=>e.elim⟩⟩⟩
 | arv t sz es=>
  obtain ⟨h0,h⟩:=h
  refine ⟨a2.trans h0,?_⟩
  rcases h with ⟨h1,h2⟩ | ⟨b,c,h1,h2,h3,h4,h5,h6,h7,h8⟩
  ·exact .inl ⟨a1.trans h1,h2⟩
  ·refine .inr ⟨b,c,a1.trans h1,(hb b h1).trans h2,by rw [a3];exact h3,h4,by rw [a3];exact h5,by rw [a3];exact h6,fun i hi'=>⟨(h7 i hi').1,fun j hj=>?_⟩,fun o ho=>h8 o (hi b o h1 ho)⟩
   obtain ⟨k1,k2⟩:=(h7 i hi').2 j hj
   exact ⟨k1,k2.mono hI hL⟩
theorem BSim.ren_ {w:World} {G G':Gm} {L L':Loc→Prop} {a a':Loc} {B:Blk} (h:BSim w G L a B) {r:Loc→Loc} (hI:∀ b o,G'.imm b o↔G.imm b o)
  (hL:∀ q,L q→L' (r q)∧G'.blk (r q)=G.blk q∧G'.len (r q)=G.len q∧G'.cap (r q)=G.cap q)
  (ha:G'.blk a'=G.blk a∧G'.len a'=G.len a∧G'.cap a'=G.cap a) (ht:∀ b i,G.tl b=some (a,i)→G'.tl b=some (a',i)):BSim w G' L' a' (B.ren r):=by
 obtain ⟨a1,a2,a3⟩:=ha
 have hI1:∀ b o,G.imm b o→G'.imm b o:=fun b o=>(hI b o).2
 have hK:ImmKept w G w G':=fun b o hi=>⟨hI1 b o hi,rfl⟩
 have hA:∀ {t:TypeId} {sz:Nat} {vw:Bool} {es:List AV},ASim w G a t sz vw es→ASim w G' a' t sz vw es:=fun {t sz vw es} ⟨h0,h⟩=>by
  refine ⟨a2.trans h0,?_⟩
  rcases h with ⟨h1,h2⟩ | ⟨b,c,h1,h2,h3,h4,h5,h6,h7,h8⟩
  ·exact .inl ⟨a1.trans h1,h2⟩
  ·refine .inr ⟨b,c,a1.trans h1,h2,by rw [a3];exact h3,h4,by rw [a3];exact h5,by rw [a3];exact h6,fun i hi'=>⟨(h7 i hi').1,fun j hj=>?_⟩,fun o ho=>h8 o ((hI b o).1 ho)⟩
   obtain ⟨k1,k2⟩:=(h7 i hi').2 j hj
   exact ⟨k1,k2.mono hK fun _ e=>e.elim⟩
 cases B with
 | box t fz v=>
  obtain ⟨b,c,h1,h2,h3,h4,h5,h6⟩:=h
  obtain ⟨e1,e2⟩:=ren_cells r v
  exact ⟨b,c,a2.trans h1,a1.trans h2,h3,by rw [e1];exact h4,fun j hj=>⟨(h5 j hj).1,by rw [e2];exact (h5 j hj).2.ren_ hI1 hL⟩,fun o ho=>h6 o ((hI b o).1 ho)⟩
 | arr t sz vw es=>
  obtain ⟨h0,h⟩:=h
  refine ⟨a2.trans h0,?_⟩
  rcases h with ⟨h1,h2⟩ | ⟨b,c,h1,h2,h3,h4,h5,h6,h7,h8⟩
  ·exact .inl ⟨a1.trans h1,h2⟩
  ·refine .inr ⟨b,c,a1.trans h1,h2,by rw [a3];exact h3,h4,by rw [a3];exact h5,by rw [a3];exact h6,fun i hi'=>⟨(h7 i hi').1,fun j hj=>?_⟩,fun o ho=>h8 o ((hI b o).1 ho)⟩
   obtain ⟨k1,k2⟩:=(h7 i hi').2 j hj
   exact ⟨k1,k2.mono hK fun _ e=>e.elim⟩
 | map es=>
  obtain ⟨b,en,ck,h1,h2,h3,h4,h5⟩:=h
  refine ⟨b,en,ck,a2.trans h1,a1.trans h2,h3,by simpa using h4,fun i hi'=>?_⟩
  have hi:i < es.length:=by simpa using hi'
  have e:(es.map fun x=>(x.1,x.2.ren r)).getD i (.top,.top)=((es.getD i (.top,.top)).1,(es.getD i (.top,.top)).2.ren r):=by
   simp [List.getD_eq_getElem?_getD,hi]
  rw [e]
  exact ⟨(h5 i hi).1.mono hK fun _ e=>e.elim,(h5 i hi).2.ren_ hI1 hL⟩
 | dead=>
  intro b hb'
  rw [a1] at hb'
  exact h b hb'
 | arq t sz k ti si out es=>
  obtain ⟨h1,h2,h3,h4⟩:=h
  refine ⟨hA h1,h2,h3,fun b c i q ks e1 e2 e3 e4 e5=>?_⟩
  rw [a1] at e1
  obtain ⟨b',cap,c',k1,k2,k3,k4,k5,k6,k7,k8⟩:=h4 b c i q ks e1 e2 e3 e4 e5
  exact ⟨b',cap,c',k1,ht b' i k2,k3,k4,k5,k6,fun o ho=>k7 o ((hI b' o).1 ho),fun j hj=>⟨(k8 j hj).1,fun j' hj'=>⟨((k8 j hj).2 j' hj').1,((k8 j hj).2 j' hj').2.mono hK fun _ e=>e.elim⟩⟩⟩
 | arv t sz es=>
  obtain ⟨h0,h⟩:=h
  have hl:=rens_length r es
  refine ⟨by rw [hl];exact a2.trans h0,?_⟩
  rcases h with ⟨h1,h2⟩ | ⟨b,c,h1,h2,h3,h4,h5,h6,h7,h8⟩
  ·exact .inl ⟨a1.trans h1,by rw [h2];rfl⟩
  ·refine .inr ⟨b,c,a1.trans h1,h2,by rw [a3];exact h3,h4,by rw [a3,hl];exact h5,by rw [a3];exact h6,fun i hi'=>?_,fun o ho=>h8 o ((hI b o).1 ho)⟩
   rw [hl] at hi'
   rw [rens_get]
   obtain ⟨e1,e2⟩:=ren_cells r (es.getD i .top)
   refine ⟨by rw [e1];exact (h7 i hi').1,fun j hj=>?_⟩
   obtain ⟨k1,k2⟩:=(h7 i hi').2 j hj
   exact ⟨k1,by rw [e2];exact k2.ren_ hI1 hL⟩
theorem Sim.world {w w':World} {G:Gm} {h:Heap} (s:Sim w G h) (hs:w.heap.size≤w'.heap.size) (hb:∀ b,b < w.heap.size→w'.heap[b]?=w.heap[b]?):Sim w' G h where
 blk a B e:=by
  have hlt:∀ b,G.blk a=some b→b < w.heap.size:=fun b hb'=>by
   have hB:=s.blk a B e
   have key:∀ o,w.heap[b]?=some o→b < w.heap.size:=fun o ho=>(Array.getElem?_eq_some_iff.1 ho).1
   cases B with
   | box t fz v=>obtain ⟨b',c,_,h2,h3,_⟩:=hB;rw [hb'] at h2;injection h2 with h2;subst h2;exact key _ h3
   | arr t sz vw es=>
    obtain ⟨_,h⟩:=hB
    rcases h with ⟨h1,_⟩ | ⟨b',c,h1,h2,_⟩
    ·rw [hb'] at h1;cases h1
    ·rw [hb'] at h1;injection h1 with h1;subst h1;exact key _ h2
   | map es=>obtain ⟨b',en,ck,_,h2,h3,_⟩:=hB;rw [hb'] at h2;injection h2 with h2;subst h2;exact key _ h3
   | dead=>exact hB b hb'
   | arq t sz k ti si out es=>
    obtain ⟨_,h⟩:=hB.1
    rcases h with ⟨h1,_⟩ | ⟨b',c,h1,h2,_⟩
    ·rw [hb'] at h1;cases h1
    ·rw [hb'] at h1;injection h1 with h1;subst h1;exact key _ h2
   | arv t sz es=>
    obtain ⟨_,h⟩:=hB
    rcases h with ⟨h1,_⟩ | ⟨b',c,h1,h2,_⟩
    ·rw [hb'] at h1;cases h1
    ·rw [hb'] at h1;injection h1 with h1;subst h1;exact key _ h2
  refine (s.blk a B e).kept (fun b o hi=>⟨hi,?_⟩) (fun a ha=>⟨ha,Agree.refl G a⟩) ⟨rfl,rfl,rfl⟩ (fun b hb'=>hb b (hlt b hb')) (fun _ _ _ h=>h) fun b i ht=>⟨ht,hb b (s.prv b _ ht).1,fun _ ho=>ho⟩
  exact World.cell?_of_block (hb b (s.imm b o hi))
 inj:=s.inj
 imm b o hi:=Nat.lt_of_lt_of_le (s.imm b o hi) hs
 prv b x hx:=⟨Nat.lt_of_lt_of_le (s.prv b x hx).1 hs,(s.prv b x hx).2⟩
theorem Sim.lt {w:World} {G:Gm} {h:Heap} (s:Sim w G h) {a:Loc} {b:Nat} (ha:dom h a) (hb:G.blk a=some b):b < w.heap.size:=by
 obtain ⟨B,e⟩:=of_dom ha
 ·have hB:=s.blk a B e
  have key:∀ o,w.heap[b]?=some o→b < w.heap.size:=fun o ho=>(Array.getElem?_eq_some_iff.1 ho).1
  cases B with
  | box t fz v=>obtain ⟨b',c,_,h2,h3,_⟩:=hB;rw [hb] at h2;injection h2 with h2;subst h2;exact key _ h3
  | arr t sz vw es=>
   obtain ⟨_,h⟩:=hB
   rcases h with ⟨h1,_⟩ | ⟨b',c,h1,h2,_⟩
   ·rw [hb] at h1;cases h1
   ·rw [hb] at h1;injection h1 with h1;subst h1;exact key _ h2
  | map es=>obtain ⟨b',en,ck,_,h2,h3,_⟩:=hB;rw [hb] at h2;injection h2 with h2;subst h2;exact key _ h3
  | dead=>exact hB b hb
  | arq t sz k ti si out es=>
   obtain ⟨_,h⟩:=hB.1
   rcases h with ⟨h1,_⟩ | ⟨b',c,h1,h2,_⟩
   ·rw [hb] at h1;cases h1
   ·rw [hb] at h1;injection h1 with h1;subst h1;exact key _ h2
  | arv t sz es=>
   obtain ⟨_,h⟩:=hB
   rcases h with ⟨h1,_⟩ | ⟨b',c,h1,h2,_⟩
   ·rw [hb] at h1;cases h1
   ·rw [hb] at h1;injection h1 with h1;subst h1;exact key _ h2
theorem Sim.held {w:World} {G:Gm} {h:Heap} (s:Sim w G h) {b:Nat} (hb:Held G h b):b < w.heap.size:=by
 rcases hb with ⟨a,ha,e⟩ | e
 ·exact s.lt ha e
 ·cases hx:G.tl b with
  | none=>exact absurd hx e
  | some x=>exact (s.prv b x hx).1
theorem Goes.world {w w':World} {G:Gm} {h:Heap} (s:Sim w G h) (h1:w'.os=w.os) (h2:w'.tape=w.tape) (h3:w'.output=w.output) (hs:w.heap.size≤w'.heap.size)
  (hb:∀ b,b < w.heap.size→w'.heap[b]?=w.heap[b]?):Goes w G h w' G h:=
 ⟨h1,h2,h3,hs,fun b hlt _=>hb b hlt,fun b k _=>k,fun b o hi=>⟨hi,World.cell?_of_block (hb b (s.imm b o hi))⟩,
  fun a ha=>⟨ha,Agree.refl G a⟩,rfl,Nat.le_refl _,fun _ _ _ _ hi=>hi⟩
theorem Sim.update {w w':World} {G G':Gm} {h:Heap} {a:Loc} {B:Blk} (s:Sim w G h) (hda:dom h a)
  (hs:w.heap.size≤w'.heap.size) (hb:∀ b,b < w.heap.size→G.blk a≠some b→w'.heap[b]?=w.heap[b]?)
  (hG:∀ a',a'≠a→G'.blk a'=G.blk a'∧G'.len a'=G.len a'∧G'.cap a'=G.cap a') (hA:Agree G G' a)
  (hI:ImmKept w G w' G') (hIn:∀ b o,G'.imm b o→G.imm b o∨(G'.blk a=some b∧b < w'.heap.size))
  (hnw:∀ b,G'.blk a=some b→G.blk a=some b∨w.heap.size≤b)
  (hB:BSim w' G' (domTo (hset h a B) a.1) a B) (ht:G'.tl=G.tl:=by rfl):Sim w' G' (hset h a B) where
 blk a' B' e:=by
  rw [hget_hset] at e
  by_cases c:a'=a∧dom h a
  ·rw [if_pos c] at e
   injection e with e
   subst e
   rw [c.1]
   exact hB
  ·rw [if_neg c] at e
   have hne:a'≠a:=fun e=>c ⟨e,hda⟩
   have hda':dom h a':=dom_of e
   refine (s.blk a' B' e).kept hI (fun x hx=>⟨⟨hx.1,?_⟩,?_⟩) (hG a' hne) (fun b hb'=>?_) (fun b o hb' hi=>?_) fun b i hx=>⟨by rw [ht];exact hx,hb b (s.prv b _ hx).1 ((s.prv b _ hx).2 a hda),fun o hi=>?_⟩
   rotate_left 4
   ·rcases hIn b o hi with hi | ⟨hi,_⟩
    ·exact hi
    ·rcases hnw b hi with hi | hi
     ·exact absurd hi ((s.prv b _ hx).2 a hda)
     ·have:=(s.prv b _ hx).1;omega
   ·exact (dom_hset h a x B).2 hx.2
   ·by_cases hx:x=a
    ·subst hx;exact hA
    ·exact .inl (hG x hx)
   ·refine hb b (s.lt hda' hb') fun e=>hne (s.inj a' a b hda' hda hb' e)
   ·rcases hIn b o hi with hi | ⟨hi,_⟩
    ·exact hi
    ·rcases hnw b hi with hi | hi
     ·exact absurd (s.inj a' a b hda' hda hb' hi) hne
     ·have:=s.lt hda' hb';omega
 inj x y b hx hy ex ey:=by
  rw [dom_hset] at hx hy
  by_cases hxa:x=a
  ·by_cases hya:y=a
   ·rw [hxa,hya]
   ·subst hxa
    rw [(hG y hya).1] at ey
    rcases hnw b ex with e | e
    ·exact s.inj x y b hx hy e ey
    ·have:=s.lt hy ey;omega
  ·by_cases hya:y=a
   ·subst hya
    rw [(hG x hxa).1] at ex
    rcases hnw b ey with e | e
    ·exact s.inj x y b hx hy ex e
    ·have:=s.lt hx ex;omega
   ·rw [(hG x hxa).1] at ex
    rw [(hG y hya).1] at ey
    exact s.inj x y b hx hy ex ey
 imm b o hi:=by
  rcases hIn b o hi with hi | ⟨_,hi⟩
  ·exact Nat.lt_of_lt_of_le (s.imm b o hi) hs
  ·exact hi
 prv b x hx:=by
  rw [ht] at hx
  obtain ⟨k1,k2⟩:=s.prv b x hx
  refine ⟨Nat.lt_of_lt_of_le k1 hs,fun y hy e=>?_⟩
  rw [dom_hset] at hy
  by_cases c:y=a
  ·subst c
   rcases hnw b e with e | e
   ·exact k2 y hy e
   ·omega
  ·rw [(hG y c).1] at e
   exact k2 y hy e
theorem Goes.update {w w':World} {G G':Gm} {h:Heap} {a:Loc} {B:Blk} (hda:dom h a)
  (h1:w'.os=w.os) (h2:w'.tape=w.tape) (h3:w'.output=w.output)
  (hs:w.heap.size≤w'.heap.size) (hb:∀ b,b < w.heap.size→G.blk a≠some b→w'.heap[b]?=w.heap[b]?)
  (hG:∀ a',a'≠a→G'.blk a'=G.blk a'∧G'.len a'=G.len a'∧G'.cap a'=G.cap a') (hA:Agree G G' a)
  (hI:ImmKept w G w' G') (hnw:∀ b,G'.blk a=some b→G.blk a=some b∨w.heap.size≤b)
  (hni:∀ b o,G'.imm b o→G.imm b o∨G.blk a=some b) (ht:G'.tl=G.tl:=by rfl):Goes w G h w' G' (hset h a B) where
 os:=h1
 tape:=h2
 output:=h3
 size:=hs
 heap b hlt hn:=hb b hlt fun e=>hn (.of hda e)
 img b hk hlt:=by
  rcases hk with ⟨x,hx,e⟩ | hk
  ·rw [dom_hset] at hx
   by_cases c:x=a
   ·subst c
    rcases hnw b e with e | e
    ·exact .of hx e
    ·omega
   ·rw [(hG x c).1] at e
    exact .of hx e
  ·rw [ht] at hk
   exact .inr hk
 imm:=hI
 loc x hx:=by
  refine ⟨(dom_hset h a x B).2 hx,?_⟩
  by_cases c:x=a
  ·subst c;exact hA
  ·exact .inl (hG x c)
 depth:=hset_length h a B
 frame:=by rw [hlen_hset];exact Nat.le_refl _
 nimm b o _ hn hi:=(hni b o hi).resolve_right fun e=>hn (.of hda e)
def Gm.at_ (G:Gm) (a:Loc) (b:Option Nat) (n:Option Nat) (c:Nat):Gm:=
 { G with blk:=fun x=>if x=a then b else G.blk x,len:=fun x=>if x=a then n else G.len x,cap:=fun x=>if x=a then c else G.cap x }
def Gm.still (G:Gm) (q:Nat→Nat→Prop):Gm:={ G with imm:=fun b o=>G.imm b o∨q b o }
theorem Sim.new_ {w w':World} {G:Gm} {h:Heap} {B:Blk} {b n:Option Nat} {c:Nat} (s:Sim w G h) (hn:h≠[])
  (hs:w.heap.size≤w'.heap.size) (hb:∀ k,k < w.heap.size→w'.heap[k]?=w.heap[k]?) (hnw:∀ k,b=some k→¬ Held G h k)
  (hB:BSim w' (G.at_ (hnext h) b n c) (domTo (hnew h B) (hnext h).1) (hnext h) B):Sim w' (G.at_ (hnext h) b n c) (Ab.hnew h B):=by
 have hfresh:=hnext_fresh h
 have hne:∀ a,dom h a→a≠hnext h:=fun a ha e=>by rw [e] at ha;unfold dom at ha;rw [hfresh] at ha;cases ha
 have hG:∀ a',a'≠hnext h→(G.at_ (hnext h) b n c).blk a'=G.blk a'∧(G.at_ (hnext h) b n c).len a'=G.len a'∧(G.at_ (hnext h) b n c).cap a'=G.cap a':=fun a' e=>by
  simp [Gm.at_,e]
 have hI:ImmKept w G w' (G.at_ (hnext h) b n c):=fun k o hi=>⟨hi,World.cell?_of_block (hb k (s.imm k o hi))⟩
 refine ⟨fun a' B' e=>?_,fun x y k hx hy ex ey=>?_,fun k o hi=>Nat.lt_of_lt_of_le (s.imm k o hi) hs,fun k x hx=>⟨Nat.lt_of_lt_of_le (s.prv k x hx).1 hs,fun q hq e=>?_⟩⟩
 rotate_left 2
 ·rw [dom_hnew hn] at hq
  by_cases ca:q=hnext h
  ·refine hnw k (by simpa [Gm.at_,ca] using e) (.inr ?_)
   have:G.tl k=some x:=hx
   rw [this];simp
  ·rw [(hG q ca).1] at e
   exact (s.prv k x hx).2 q (hq.resolve_left ca) e
 ·rw [hget_hnew h a' B hn] at e
  by_cases ha:a'=hnext h
  ·rw [if_pos ha] at e
   injection e with e
   subst e
   rw [ha]
   exact hB
  ·rw [if_neg ha] at e
   have hda':dom h a':=dom_of e
   refine (s.blk a' B' e).kept hI (fun x hx=>⟨⟨hx.1,?_⟩,.inl (hG x (hne x hx.2))⟩) (hG a' ha) (fun k hk=>hb k (s.lt hda' hk)) (fun k o _ hi=>hi) fun k i hk=>⟨hk,hb k (s.prv k _ hk).1,fun _ ho=>ho⟩
   exact (dom_hnew hn x B).2 (.inr hx.2)
 ·rw [dom_hnew hn] at hx hy
  by_cases ca:x=hnext h
  ·by_cases cb:y=hnext h
   ·rw [ca,cb]
   ·have hy':=hy.resolve_left cb
    rw [(hG y cb).1] at ey
    exact absurd (.of hy' ey) (hnw k (by simpa [Gm.at_,ca] using ex))
  ·have hx':=hx.resolve_left ca
   rw [(hG x ca).1] at ex
   by_cases cb:y=hnext h
   ·exact absurd (.of hx' ex) (hnw k (by simpa [Gm.at_,cb] using ey))
   ·rw [(hG y cb).1] at ey
    exact s.inj x y k hx' (hy.resolve_left cb) ex ey
theorem Sim.new {w w':World} {G:Gm} {h:Heap} {B:Blk} {b n:Option Nat} {c:Nat} (s:Sim w G h) (hn:h≠[])
  (hs:w.heap.size≤w'.heap.size) (hb:∀ k,k < w.heap.size→w'.heap[k]?=w.heap[k]?) (hnw:∀ k,b=some k→w.heap.size≤k)
  (hB:BSim w' (G.at_ (hnext h) b n c) (domTo (hnew h B) (hnext h).1) (hnext h) B):Sim w' (G.at_ (hnext h) b n c) (Ab.hnew h B):=
 s.new_ hn hs hb (fun k hk e=>by have h1:=s.held e;have h2:=hnw k hk;omega) hB
theorem Goes.name {w0 w:World} {G0 G:Gm} {h0 h:Heap} {B:Blk} {b:Nat} {n:Option Nat} {c:Nat} (g:Goes w0 G0 h0 w G h) (hn:h≠[]) (hb:w0.heap.size≤b):Goes w0 G0 h0 w (G.at_ (hnext h) (some b) n c) (Ab.hnew h B) where
 os:=g.os
 tape:=g.tape
 output:=g.output
 size:=g.size
 heap:=g.heap
 img k hh hk:=by
  rcases hh with ⟨x,hx,e⟩ | hh
  ·rw [dom_hnew hn] at hx
   by_cases ca:x=hnext h
   ·simp [Gm.at_,ca] at e
    omega
   ·exact g.img k (.of (hx.resolve_left ca) (by simpa [Gm.at_,ca] using e)) hk
  ·exact g.img k (.inr hh) hk
 imm:=g.imm
 loc x hx:=by
  obtain ⟨k1,k2⟩:=g.loc x hx
  refine ⟨(dom_hnew hn x B).2 (.inr k1),k2.trans (.inl ?_)⟩
  have:x≠hnext h:=fun e=>by rw [e] at k1;unfold dom at k1;rw [hnext_fresh h] at k1;cases k1
  simp [Gm.at_,this]
 depth:=(hnew_length h B).trans g.depth
 frame:=Nat.le_trans g.frame (hlen_hnew h B)
 nimm:=g.nimm
theorem Goes.new {w w':World} {G:Gm} {h:Heap} {B:Blk} {b n:Option Nat} {c:Nat} (s:Sim w G h) (hn:h≠[])
  (h1:w'.os=w.os) (h2:w'.tape=w.tape) (h3:w'.output=w.output)
  (hs:w.heap.size≤w'.heap.size) (hb:∀ k,k < w.heap.size→w'.heap[k]?=w.heap[k]?) (hnw:∀ k,b=some k→w.heap.size≤k) :
  Goes w G h w' (G.at_ (hnext h) b n c) (Ab.hnew h B):=by
 have hfresh:=hnext_fresh h
 have hne:∀ a,dom h a→a≠hnext h:=fun a ha e=>by rw [e] at ha;unfold dom at ha;rw [hfresh] at ha;cases ha
 refine ⟨h1,h2,h3,hs,fun k hlt _=>hb k hlt,fun k hh hlt=>?_,fun k o hi=>⟨hi,World.cell?_of_block (hb k (s.imm k o hi))⟩,fun x hx=>⟨(dom_hnew hn x B).2 (.inr hx),?_⟩,
  hnew_length h B,hlen_hnew h B,fun _ _ _ _ hi=>hi⟩
 ·rcases hh with ⟨x,hx,e⟩ | hh
  ·rw [dom_hnew hn] at hx
   by_cases ca:x=hnext h
   ·have h3:=hnw k (by simpa [Gm.at_,ca] using e)
    omega
   ·exact .of (hx.resolve_left ca) (by simpa [Gm.at_,ca] using e)
  ·exact .inr hh
 ·have:=hne x hx
  exact .inl (by simp [Gm.at_,this])
theorem Sim.still {w:World} {G:Gm} {h:Heap} (s:Sim w G h) {q:Nat→Nat→Prop} (hq:∀ b o,q b o→b < w.heap.size∧¬ Held G h b):Sim w (G.still q) h where
 blk a B e:=by
  have hda:dom h a:=dom_of e
  refine (s.blk a B e).kept (fun b o hi=>⟨.inl hi,rfl⟩) (fun x hx=>⟨hx,.inl ⟨rfl,rfl,rfl⟩⟩) ⟨rfl,rfl,rfl⟩ (fun _ _=>rfl) (fun b o hb hi=>?_) fun b i hb=>⟨hb,rfl,fun o hi=>?_⟩
  ·rcases hi with hi | hi
   ·exact hi
   ·exact absurd (.of hda hb) (hq b o hi).2
  ·rcases hi with hi | hi
   ·exact hi
   ·exact absurd (.inr (by rw [hb];simp)) (hq b o hi).2
 inj:=s.inj
 imm b o hi:=hi.elim (s.imm b o) fun hi=>(hq b o hi).1
 prv:=s.prv
theorem Goes.still {w w':World} {G:Gm} {h:Heap} (g:Goes w G h w' G h) {q:Nat→Nat→Prop} (hq:∀ b o,q b o→w.heap.size≤b):Goes w G h w' (G.still q) h where
 os:=g.os
 tape:=g.tape
 output:=g.output
 size:=g.size
 heap:=g.heap
 img:=g.img
 imm b o hi:=⟨.inl (g.imm b o hi).1,(g.imm b o hi).2⟩
 loc a ha:=⟨ha,.inl ⟨rfl,rfl,rfl⟩⟩
 depth:=rfl
 frame:=Nat.le_refl _
 nimm b o hb _ hi:=hi.elim id fun hi=>by have:=hq b o hi;omega
end Go.Ab
/-
  From the model's code to the compact code.
-/
namespace Go.Ab
def ofV1:Value→AV
 | .bool b=>.bool b
 | .int k n=>.int k n
 | .string s=>.str s.data.toList
 | .pointer none=>.nilp
 | .slice none 0 0=>.nils
 | .map none=>.nilm
 | .nilFunc=>.nilf
 | .nilIface=>.nili
 | _=>.top
def ofV:Value→AV
 | .agg cs=>if cs.all Value.oneCell' then .agg (cs.toList.map ofV1) else .top
 | v=>ofV1 v
def cOpd:Operand→Option Opd
 | .tmp t=>some (.t t)
 | .const v=>some (.c (ofV v))
 | .func f=>some (.c (.fn (.func f) [] []))
 | .global _=>none
def cOpds:List Operand→Option (List Opd)
 | []=>some []
 | x :: r=>match cOpd x,cOpds r with
  | some y,some s=>some (y :: s)
  | _,_=>none
def cOpdO:Option Operand→Option (Option Opd)
 | none=>some none
 | some x=>match cOpd x with
  | some y=>some (some y)
  | none=>none
def shapeOf (P:Program) (t:TypeId):Option (Bool×Nat):=
 match P.underlying t,P.info? t with
 | some d,some i=>some (match d with | .struct _ | .array _ _=>true | _=>false,i.size)
 | _,_=>none
def zeroOf (P:Program) (t:TypeId):Option AV:=
 match P.info? t with
 | some i=>match i.zero with
  | some z=>if (ofV z).cells.length=i.size then some (ofV z) else none
  | none=>none
 | none=>none
def fieldOf (P:Program) (t:TypeId) (i:Nat):Option (Nat×TypeId):=
 match P.underlying t with
 | some (.struct fs)=>match fs[i]? with
  | some f=>some (f.offset,f.type)
  | none=>none
 | _=>none
def NoEsc (s : String) : Prop := Extern.allGenericRows.lookup s = none ∧ Extern.allTypedRows.lookup s = none ∧ Extern.allRows.lookup s = some Extern.AbiNoEscape.same ∧ Extern.allNextRows.lookup s = none ∧ (s == "runtime.NumGoroutine") = false
structure Hints where
  mat:FuncId→Nat→Bool
  own:FuncId→Nat→Bool
  quiet:FuncId→Bool
  live:FuncId→Nat→List Nat
  draw:FuncId→Nat→List (Nat×List Nat×List Nat):=fun _ _=>[]
  noEsc:Option String:=none
  noEscOk:∀ s, noEsc=some s→NoEsc s:=by simp
  boxk:FuncId→Nat→Option Nat:=fun _ _=>none
  ldq:FuncId→Nat→Bool:=fun _ _=>false
  stq:FuncId→Nat→Bool:=fun _ _=>false
  mkq:FuncId→Nat→Option (Nat×TypeId×Nat):=fun _ _=>none
  mkv:FuncId→Nat→Bool:=fun _ _=>false
  stv:FuncId→Nat→Bool:=fun _ _=>false
  boxv:FuncId→Nat→Option Nat:=fun _ _=>none
  inv:List TypeId:=[]
  nilm:FuncId→Nat→Option String:=fun _ _=>none
  kept:FuncId→Bool:=fun _=>false
  dfr:FuncId→Bool:=fun _=>false
def hintAt (m:FuncId→Nat→Bool) (f:FuncId):Option Nat→Bool
 | some d=>m f d
 | none=>false
def tmpOf:Operand→Option Nat
 | .tmp d=>some d
 | _=>none
def nilKind:TypeDesc→Operand→Option NK
 | .slice _,.const (.slice none 0 0)=>some .slice
 | .pointer _,.const (.pointer none)=>some .ptr
 | .func _ _ _,.const .nilFunc=>some .func
 | .interface _,.const .nilIface=>some .iface
 | .map _ _,.const (.map none)=>some .map
 | _,_=>none
def placesOf (P:Program) (t:TypeId):Option (Nat→Option (Nat×Nat)):=
 match P.info? t,P.underlying t with
 | some _,some (.array _ e)=>match P.info? e with
  | some ie=>some fun i=>some (i * ie.size,ie.size)
  | none=>none
 | some _,some (.struct fields)=>match fields.toList.mapM (fun f=>(P.info? f.type).map fun i=>(f.offset,i.size)) with
  | some places=>some fun i=>places.toArray[i]?
  | none=>none
 | _,_=>none
def partsOf (pl:Nat→Option (Nat×Nat)):List (Nat×Operand)→Option (List (Nat×Nat×Opd))
 | []=>some []
 | (i,x) :: r=>match cOpd x,partsOf pl r,pl i with
  | some y,some s,some (off,sz)=>some ((off,sz,y) :: s)
  | _,_,_=>none
def partsS:List (Nat×Operand)→Option (List (Nat×Opd))
 | []=>some []
 | (i,x) :: r=>match cOpd x,partsS r with
  | some y,some s=>some ((i,y) :: s)
  | _,_=>none
def fKind (P:Program) (t:TypeId):Option FK:=match P.underlying t with
 | some .bool=>some .bool
 | some (.int _)=>some .int
 | some .string=>some .str
 | _=>none
def fKinds (P:Program):Nat→List Field→Option (List FK)
 | _,[]=>some []
 | i, f :: r => if f.offset = i ∧ f.name ≠ "_" ∧ shapeOf P f.type = some (false, 1) then (match fKind P f.type, fKinds P (i + 1) r with
  | some k,some s=>some (k :: s)
  | _,_=>none) else none
def flatEq (P:Program) (t:TypeId):Option (List FK):=match P.underlying t with
 | some (.struct fs)=>if P.stoodInHeld t=false∧P.eqGuardType P.depth t=false then fKinds P 0 fs.toList else none
 | _=>none
def keyK (P:Program) (t:TypeId):Option KK:=match fKind P t with
 | some k=>if shapeOf P t=some (false,1) then some (.one k) else none
 | none=>match flatEq P t with
  | some ks=>some (.st ks)
  | none=>none
def isSame (P:Program) (noEsc:Option String):Operand→Bool
 | .func f=>match P.funcs[f]? with
  | some fn => fn.body.isNone && some fn.name == noEsc && fn.origin == ""
  | none=>false
 | _=>false
def rowOf (P:Program) (name:String) (t:TypeId):Option FuncId:=match P.info? t,P.underlying t with
 | some i,some d=>(match d with
  | .pointer _=>none
  | _=>match i.methods.find? (·.name == name) with
   | some m=>if m.path=#[] then (match m.func with
    | some (g,false)=>some g
    | _=>none) else none
   | none=>none)
 | _,_=>none
def hintName (m:FuncId→Nat→Option String) (f:FuncId) (d:Option Nat):Option String:=match d with
 | some d=>m f d
 | none=>none
def tblOf (P:Program) (name:String) (ts:List TypeId):List (TypeId×FuncId):=ts.filterMap fun t=>(rowOf P name t).map fun g=>(t,g)
def cOp (P:Program) (H:Hints) (f:FuncId) (o:Oper):COp:=
 match o.op with
 | .move x=>match cOpd x with
  | some y=>.p (.mv y)
  | none=>.bad
 | .assign x=>match cOpd x with
  | some y=>if hintAt H.mat f o.dst then .m (.mat y) else .p (.mv y)
  | none=>.bad
 | .pick c a b=>match cOpd c,cOpd a,cOpd b with
  | some c,some a,some b=>.p (.pick c a b)
  | _,_,_=>.bad
 | .alloc t=>match shapeOf P t,zeroOf P t with
  | some (_,sz),some z=>if 0 < sz then .m (.alloc t z (hintAt H.own f o.dst)) else (match z with
   | .agg []=>.m (.al0 t)
   | _=>.bad)
  | _,_=>.bad
 | .box t x=>match cOpd x,shapeOf P t with
  | some y,some (_,sz)=>if 0 < sz then .m (match o.dst.bind (H.boxv f) with
   | some k=>.boxV t sz k y
   | none=>match o.dst.bind (H.boxk f) with
   | some k=>.boxK t sz k y
   | none=>.box t sz y) else .bad
  | _,_=>.bad
 | .build t ps=>match zeroOf P t,placesOf P t with
  | some (.agg z),some pl=>(match partsOf pl ps.toList with
   | some s=>.p (.bld z s)
   | none=>.bad)
  | _,_=>.bad
 | .buildSlice t n ps=>match P.underlying t with
  | some (.slice e)=>(match shapeOf P e,zeroOf P e,partsS ps.toList with
   | some (_,sz),some z,some s=>if n * sz≤2 ^ 24∧0 < sz then .m (.bldS e sz n z s (hintAt H.own f o.dst)) else .bad
   | _,_,_=>.bad)
  | _=>.bad
 | .load t x=>match cOpd x,shapeOf P t with
  | some y,some (ag,sz)=>if hintAt H.ldq f o.dst then (if ag=false∧sz=1 then .m (.ldQ y) else .bad) else if 0 < sz then .m (.load ag sz y) else .bad
  | _,_=>.bad
 | .store t a x=>match cOpd a,cOpd x,shapeOf P t with
  | some b,some y,some (ag,sz)=>if hintAt H.stv f (tmpOf a) then (if 0 < sz then .m (.stV sz b y) else .bad) else if hintAt H.stq f (tmpOf a) then (if ag=false∧sz=1 then .m (.stQ b y) else .bad) else if 0 < sz then .m (.store sz (hintAt H.mat f (tmpOf a)) b y) else if sz=0 then .m (.st0 b y) else .bad
  | _,_,_=>.bad
 | .nilCheck x=>match cOpd x with
  | some y=>(match hintName H.nilm f o.dst with
   | some nm=>.p (.nilckM nm (H.inv.filter fun t=>(rowOf P nm t).isSome) y)
   | none=>.p (.nilck y))
  | none=>.bad
 | .binOp b t x y _=>
  match cOpd x,cOpd y with
  | some x',some y'=>
   (match P.underlying t with
    | some (.int _)=>.p (.bin b x' y')
    | some .string=>.p (.bin b x' y')
    | some .bool=>(match b with
     | .eql=>.p (.eqB false x' y')
     | .neq=>.p (.eqB true x' y')
     | _=>.bad)
    | some d=>(match nilKind d y with
     | some k=>(match b with
      | .eql=>.p (.eqN k false x')
      | .neq=>.p (.eqN k true x')
      | _=>.bad)
     | none=>(match d with
      | .pointer te=>(match P.info? te with
       | some _=>(match b with
        | .eql=>.p (.eqP false x' y')
        | .neq=>.p (.eqP true x' y')
        | _=>.bad)
       | none=>.bad)
      | .struct _=>(match flatEq P t with
       | some ks=>(match b with
        | .eql=>.p (.eqA false ks x' y')
        | .neq=>.p (.eqA true ks x' y')
        | _=>.bad)
       | none=>.bad)
      | _=>.bad))
    | _=>.bad)
  | _,_=>.bad
 | .unOp u _ x=>match cOpd x,u with
  | some y,.not=>.p (.not y)
  | some y,.neg=>.p (.neg y)
  | _,_=>.bad
 | .convert s d x=>match cOpd x,P.underlying s,P.underlying d with
  | some y,some (.int _),some (.int k)=>.p (.cvI k y)
  | some y,some .string,some .string=>.p (.cvS y)
  | some y,some (.slice e),some .string=>(match P.underlying e with
   | some (.int .u8)=>.m (.b2s y)
   | _=>.bad)
  | some y,some .string,some (.slice e)=>(match P.underlying e with
   | some (.int .u8)=>.m (.s2b y)
   | _=>.bad)
  | some y,some (.pointer t),some .unsafePointer=>(match P.info? t with
   | some j=>if 0 < j.size then .m (.cvU y) else .bad
   | none=>.bad)
  | some y,some .unsafePointer,some (.pointer u)=>(match P.info? u with
   | some j=>if liesAt P P.depth u 1 0 u 1=true∧P.cellsOf u=j.size∧0 < j.size then .m (.cvP u j.size y) else .bad
   | none=>.bad)
  | _,_,_=>.bad
 | .makeInterface t x=>match cOpd x,P.underlying t with
  | some _,some (.interface _)=>.bad
  | some y,some _=>.p (.mkI t y)
  | _,_=>.bad
 | .makeFunc fn a b=>match cOpds a.toList,cOpds b.toList with
  | some a,some b=>.p (.mkF fn a b)
  | _,_=>.bad
 | .makeMap t r=>match r with
  | none=>.m .mkM
  | some (.const (.int _ _))=>(match P.underlying t with
   | some (.map _ _)=>.m .mkM
   | _=>.bad)
  | _=>.bad
 | .lookup t x k ok=>match cOpd x,cOpd k,P.underlying t with
  | some x,some k,some (.map kt et)=>(match keyK P kt,zeroOf P et with
   | some kk,some z=>.m (.lkp kk z ok x k)
   | _,_=>.bad)
  | _,_,_=>.bad
 | .mapUpdate t x k v=>match cOpd x,cOpd k,cOpd v,P.underlying t with
  | some x,some k,some v,some (.map kt _)=>(match keyK P kt with
   | some kk=>.m (.mup kk x k v)
   | none=>.bad)
  | _,_,_,_=>.bad
 | .insert t x k v=>match cOpd x,cOpd k,cOpd v,P.underlying t with
  | some x,some k,some v,some (.map kt _)=>(match keyK P kt with
   | some kk=>.m (.mup kk x k v)
   | none=>.bad)
  | _,_,_,_=>.bad
 | .makeSlice t l c=>match P.underlying t,cOpd l,cOpd c with
  | some (.slice e),some l,some c=>(match P.info? e,zeroOf P e with
   | some i,some z=>if 0 < i.size then .m (if hintAt H.mkv f o.dst then .mkSV e i.size i.bytes z l c else match o.dst.bind (H.mkq f) with
    | some (_,ti,si)=>.mkSQ e i.size i.bytes z l c ti si
    | none=>.mkS e i.size i.bytes z l c) else .bad
   | _,_=>.bad)
  | _,_,_=>.bad
 | .slice t x lo hi mx=>match P.underlying t,cOpd x,cOpdO lo,cOpdO hi,cOpdO mx with
  | some .string,some y,some lo,some hi,some none=>.p (.slS y lo hi)
  | some (.slice e),some y,some lo,some hi,some mx=>(match shapeOf P e with
   | some (_,sz)=>.m (.slL sz y lo hi mx)
   | none=>.bad)
  | some (.array n e),some y,some lo,some hi,some none=>(match shapeOf P e with
   | some (_,sz)=>.m (.slA n sz y lo hi)
   | none=>.bad)
  | _,_,_,_,_=>.bad
 | .fieldAddr t x i=>match cOpd x,fieldOf P t i with
  | some y,some (off,ft)=>(match shapeOf P ft with
   | some (_,sz)=>if 0 < sz then .p (.fa off y) else .bad
   | none=>.bad)
  | _,_=>.bad
 | .field t x i=>match cOpd x,fieldOf P t i with
  | some y,some (off,ft)=>(match shapeOf P ft with
   | some (ag,sz)=>.p (.fld ag off sz y)
   | none=>.bad)
  | _,_=>.bad
 | .indexAddr t x i=>match cOpd x,cOpd i,P.underlying t with
  | some y,some j,some (.array n e)=>(match shapeOf P e with
   | some (_,sz)=>.p (.iaA n sz y j)
   | none=>.bad)
  | some y,some j,some (.slice e)=>(match shapeOf P e with
   | some (_,sz)=>.p (.iaS sz y j)
   | none=>.bad)
  | _,_,_=>.bad
 | .index t x i=>match cOpd x,cOpd i,P.underlying t with
  | some y,some j,some (.array n e)=>(match shapeOf P e with
   | some (ag,sz)=>.p (.ixA ag n sz y j)
   | none=>.bad)
  | some y,some j,some .string=>.p (.ixS y j)
  | _,_,_=>.bad
 | .typeAssert x _ t ok=>match cOpd x,P.underlying t,zeroOf P t with
  | some _,some (.interface _),_=>.bad
  | some y,some _,some z=>.p (.tyA t ok z y)
  | _,_,_=>.bad
 | .extract x i=>match cOpd x with
  | some y=>.p (.ext y i)
  | none=>.bad
 | .call c=>match c.callee,cOpds c.args.toList with
  | .value g,some xs=>if isSame P H.noEsc g=true then (match xs with
    | [x]=>.p (.mv x)
    | _=>.bad)
   else (match cOpd g with
   | some g=>.m (.call g xs)
   | none=>.bad)
  | .invoke r name,some xs=>(match cOpd r with
   | some r=>.m (.inv (tblOf P name H.inv) r xs)
   | none=>.bad)
  | .builtin .unsafeSliceData,some [x]=>(match P.underlying o.type with
   | some (.pointer _)=>.m (.usd x)
   | _=>.bad)
  | .builtin .unsafeString,some [x,k]=>(match c.argTypes.toList with
   | [pt,_]=>(match P.underlying pt with
    | some (.pointer e)=>if P.cellsOf e=1 then .m (.ustr e x k) else .bad
    | _=>.bad)
   | _=>.bad)
  | .builtin .len,some [x]=>(match c.argTypes[0]? with
   | some t=>(match P.underlying t with
    | some .string=>.p (.len false x)
    | some (.slice _)=>.p (.len true x)
    | some (.map _ _)=>.m (.lenM x)
    | _=>.bad)
   | none=>.bad)
  | .builtin .max,some xs=>.p (.mm true xs)
  | .builtin .min,some xs=>.p (.mm false xs)
  | .builtin .append,some [s,x]=>(match c.argTypes[0]?,c.argTypes[1]? with
   | some t,some u=>(match P.underlying t,P.underlying u with
    | some (.slice e),some (.slice e')=>(match P.info? e,zeroOf P e with
     | some i,some _=>if 0 < i.size∧t=u then .m (if hintAt H.mkv f o.dst then .appV e i.size i.bytes s x else match o.dst.bind (H.mkq f) with
      | some (k,ti,si)=>.appQ e i.size i.bytes k ti si s x
      | none=>.app e i.size i.bytes s x) else .bad
     | _,_=>.bad)
    | some (.slice e),some .string=>(match P.info? e,zeroOf P e with
     | some i,some _=>if i.size=1 then .m (.appS e i.bytes s x) else .bad
     | _,_=>.bad)
    | _,_=>.bad)
   | _,_=>.bad)
  | _,_=>.bad
 | .panic x=>match cOpd x with
  | some y=>.m (.pan y)
  | none=>.bad
 | _=>.bad
def cGuard (ops:Array Oper):Option (Nat×Bool)→Option (Option (Nat×Bool))
 | none=>some none
 | some (j,b)=>match (ops[j]?).bind (·.dst) with
  | some t=>some (some (t,b))
  | none=>none
def inN (N:Nat):Option Nat→Bool
 | some d=>decide (d < N)
 | none=>true
def cOper (P:Program) (H:Hints) (f:FuncId) (N:Nat) (ops:Array Oper) (o:Oper):CO:=
 match cGuard ops o.guard with
 | none=>{ dst:=o.dst,gd:=none,op:=.bad }
 | some g=>if inN N o.dst then { dst:=o.dst,gd:=g,op:=cOp P H f o } else { dst:=o.dst,gd:=none,op:=.bad }
def isAl (c:CO):Bool:=match c with
 | { dst:=some _,gd:=none,op:=.m (.alloc _ _ false) }=>true
 | _=>false
def pairOk (q p:DO):Bool:=
 p.ix != q.ix &&
 (q.anc.contains p.ix ||
  ((match p.co.dst with
   | some t=>!(q.looks.contains t)
   | none=>true) &&
  (match q.co.dst with
   | some t=>!(p.looks.contains t)
   | none=>true) &&
  (!(loud p.co) || isAl q.co) && (!(loud q.co && quietC p.co) || q.re.contains p.ix))) &&
 (match p.co.dst,q.co.dst with
  | some t,some u=>t != u
  | _,_=>true)
def looksOk (d:DO):List DO→Bool
 | []=>true
 | c :: r=>(!(isAl c.co) || (match c.co.dst with
   | some t=>!(d.looks.contains t) || r.all (fun b=>!(loud b.co) || d.anc.contains b.ix)
   | none=>true)) && looksOk d r
def okD (ops:Array Oper):List DO→List DO→Bool
 | [],seen=>(List.range ops.size).all fun i=>seen.any fun s=>s.ix == i
 | d :: r,seen=>(match ops[d.ix]? with
  | none=>false
  | some o=>o.after.toList.all (fun e=>!(Region.binds .any e) || seen.any (fun s=>s.ix == e.on)) &&
    d.anc.all (fun i=>o.after.toList.any (fun e=>Region.binds .any e && (e.on == i || seen.any (fun s=>s.ix == e.on && s.anc.contains i))))) &&
   seen.all (pairOk d) && (looksOk d seen && okD ops r (d :: seen))
def cDO (P:Program) (H:Hints) (f:FuncId) (N:Nat) (ops:Array Oper) (x:Nat×List Nat×List Nat):DO:=
 match ops[x.1]? with
 | some o=>{ co:=cOper P H f N ops o,ix:=x.1,looks:=o.looksAt ops,anc:=x.2.1,re:=x.2.2 }
 | none=>{ co:={ dst:=none,gd:=none,op:=.bad },ix:=x.1,looks:=[],anc:=[],re:=[] }
def bare (d:DO):DO:={ d with anc:=[] }
def cDraw (P:Program) (H:Hints) (f:FuncId) (N:Nat) (ops:Array Oper) (hs:List (Nat×List Nat×List Nat)):CC:=
 if P.follows .mixedOrders=true∧okD ops (hs.map (cDO P H f N ops)) []=true then .draw ((hs.map (cDO P H f N ops)).map bare) else .bad
def firstReg:Code→Nat
 | .region id _ _=>id
 | .seq a _=>firstReg a
 | .block _ a=>firstReg a
 | .loop a=>firstReg a
 | .scope a=>firstReg a
 | .cond _ a _=>firstReg a
 | _=>0
def cCode (P:Program) (H:Hints) (f:FuncId) (N:Nat):Code→CC
 | .skip=>.skip
 | .region id ops draw=>if draw then cDraw P H f N ops (H.draw f id) else .reg (ops.toList.map (cOper P H f N ops))
 | .seq a b=>.seq (cCode P H f N a) (cCode P H f N b)
 | .cond x a b=>match cOpd x with
  | some y=>.cond y (cCode P H f N a) (cCode P H f N b)
  | none=>.bad
 | .block id a=>.block id (cCode P H f N a)
 | .loop a=>.loop (H.live f (firstReg a)) (cCode P H f N a)
 | .exit id=>.exit id
 | .scope a=>.scope (cCode P H f N a)
 | .label _=>.skip
 | .ret=>.ret
 | _=>.bad
def cRes (P:Program) (N:Nat):List ResultVar→Option (List CRes)
 | []=>some []
 | .tmp t :: r=>match cRes P N r with
  | some s=>some (.tmp t :: s)
  | none=>none
 | .cell t ty :: r=>match shapeOf P ty,cRes P N r with
  | some (ag,sz),some s=>if 0 < sz then some (.cell t ag sz :: s) else none
  | _,_=>none
def isDefer (P:Program) (H:Hints) (f:FuncId) (N:Nat) (ops:Array Oper):Option (Nat×POp):=
 match ops.toList with
 | [o1,o2]=>(match o1.dst,o1.guard,cOp P H f o1,o2.op,o2.guard,o2.dst with
  | some d,none,.p q,.defer c,none,none=>(match c.callee,c.args.toList with
   | .value (.tmp d'),[]=>if d=d'∧d < N then some (d,q) else none
   | _,_=>none)
  | _,_,_,_,_,_=>none)
 | _=>none
def cSpine (P:Program) (H:Hints) (f:FuncId) (N:Nat):Code→CB
 | .seq (.region id ops false) y=>match isDefer P H f N ops with
  | some (d,q)=>.dfr d q (cCode P H f N y)
  | none=>.seq (cCode P H f N (.region id ops false)) (cSpine P H f N y)
 | .seq x y=>.seq (cCode P H f N x) (cSpine P H f N y)
 | c=>.code (cCode P H f N c)
def dFun (P:Program) (H:Hints) (g:FuncId):Option DFun:=
 match P.funcs[g]? with
 | none=>none
 | some fn=>(match fn.body,fn.results.toList with
  | some (.seq (.region _ ops false) y),[]=>(match ops.toList with
   | [o1,o2]=>(match o1.dst,o1.guard,o1.op,o2.dst,o2.guard,o2.op with
    | some d1,none,.call c,some d2,none,.assign (.tmp d)=>(match c.callee,c.args.toList with
     | .builtin .recover, [] => if d = d1 ∧ d1 < fn.ntmps ∧ d2 < fn.ntmps ∧ (fn.name == "runtime.NumGoroutine") = false then some { d1 := d1, d2 := d2, rest := cCode P H g fn.ntmps y, nt := fn.ntmps } else none
     | _,_=>none)
    | _,_,_,_,_,_=>none)
   | _=>none)
  | _,_=>none)
def cFun (P:Program) (H:Hints) (f:FuncId):Option CFun:=
 match P.funcs[f]? with
 | none=>none
 | some fn=>match fn.body,cRes P fn.ntmps fn.results.toList with
  | some c, some r => if fn.name == "runtime.NumGoroutine" then none else some { body := if H.dfr f then cSpine P H f fn.ntmps c else .code (cCode P H f fn.ntmps c), res := keptR (H.kept f) r, np := fn.params.size + fn.nfree, nt := fn.ntmps }
  | _,_=>none
end Go.Ab
/-
  The operations that read no memory: what the evaluator says of them holds.
-/
namespace Go.Ab
open Go.RowKit
def EnvRel (w:World) (G:Gm) (L:Loc→Prop) (e:Env) (a:Act):Prop:=∀ t,VRel w G L (get e t) (a.tmps.getD t undef)
variable {P:Program} {w:World} {G:Gm} {L:Loc→Prop}
theorem vrel_ofV1 (v:Value):VRel w G L (ofV1 v) v:=by
 unfold ofV1
 split<;>first
  | exact .bool _ _
  | exact .int _ _ _
  | (rename_i s;exact .str _ _)
  | exact .nilp _
  | exact .nils _
  | exact .nilm _
  | exact .nilf _
  | exact .nili _
  | exact .top _ _
theorem vrel_ofV (v:Value):VRel w G L (ofV v) v:=by
 unfold ofV
 split
 ·rename_i cs
  split
  ·rename_i hall
   refine .agg _ _ _ (by simp) (fun i hi=>?_) (fun i hi=>?_)
   ·simp only [List.length_map,Array.length_toList] at hi
    have:=Array.all_eq_true.1 hall i hi
    simpa [hi] using this
   ·simp only [List.length_map,Array.length_toList] at hi
    have e:(cs.toList.map ofV1).getD i .top=ofV1 (cs.getD i undef):=by simp [hi]
    rw [e]
    exact vrel_ofV1 _
  ·exact .top _ _
 ·exact vrel_ofV1 v
theorem opd_rel {e:Env} {a:Act} (he:EnvRel w G L e a) {x:Operand} {y:Opd} (h:cOpd x=some y):VRel w G L (y.ev e) (a.eval x):=by
 cases x with
 | tmp t=>simp only [cOpd,Option.some.injEq] at h;subst h;exact he t
 | const v=>simp only [cOpd,Option.some.injEq] at h;subst h;exact vrel_ofV v
 | global g=>simp [cOpd] at h
 | func f=>
  simp only [cOpd,Option.some.injEq] at h
  subst h
  exact .fn _ _ _ _ _ _ rfl rfl (fun i hi=>by simp at hi) (fun i hi=>by simp at hi)
theorem opds_rel {e:Env} {a:Act} (he:EnvRel w G L e a):∀ {xs:List Operand} {ys:List Opd},cOpds xs=some ys →
  ys.length=xs.length∧∀ i,i < ys.length→VRel w G L ((ys.map (·.ev e)).getD i .top) ((xs.map a.eval).getD i undef)
 | [],ys,h=>by simp only [cOpds,Option.some.injEq] at h;subst h;exact ⟨rfl,fun i hi=>by simp at hi⟩
 | x :: r,ys,h=>by
  simp only [cOpds] at h
  cases hx:cOpd x with
  | none=>simp [hx] at h
  | some y=>
   cases hr:cOpds r with
   | none=>simp [hx,hr] at h
   | some s=>
    simp only [hx,hr,Option.some.injEq] at h
    subst h
    obtain ⟨h1,h2⟩:=opds_rel he hr
    refine ⟨by simp [h1],fun i hi=>?_⟩
    cases i with
    | zero=>simpa using opd_rel he hx
    | succ i=>simpa using h2 i (by simpa using hi)
theorem fn_shape {f:Fn} {a b:List AV} {x:Value} (h:VRel w G L (.fn f a b) x):∃ va vb:Array Value,x=.func f va vb∧va.size=a.length∧vb.size=b.length ∧
  (∀ i,i < a.length→VRel w G L (a.getD i .top) (va.getD i undef))∧(∀ i,i < b.length→VRel w G L (b.getD i .top) (vb.getD i undef)):=by
 cases h with
 | fn L f a b va vb hla hlb ha hb=>exact ⟨va,vb,rfl,hla,hlb,ha,hb⟩
theorem agg_shape {cs:List AV} {x:Value} (h:VRel w G L (.agg cs) x):∃ vs:Array Value,x=.agg vs∧vs.size=cs.length ∧
  (∀ i,i < cs.length→(vs.getD i undef).oneCell'=true)∧(∀ i,i < cs.length→VRel w G L (cs.getD i .top) (vs.getD i undef)):=by
 cases h with
 | agg L cs vs hl ho h=>exact ⟨vs,rfl,hl,ho,h⟩
theorem int_shape {k:IntKind} {n:Int} {x:Value} (h:VRel w G L (.int k n) x):x=.int k n:=by cases h;rfl
theorem bool_shape {b:Bool} {x:Value} (h:VRel w G L (.bool b) x):x=.bool b:=by cases h;rfl
theorem str_shape {s:List UInt8} {x:Value} (h:VRel w G L (.str s) x):x=.string ⟨s.toArray⟩:=by cases h;rfl
theorem one_cells {v:AV} {x:Value} (h:VRel w G L v x) (ho:x.oneCell'=true) (hv:v.cells=[v]):x.cells.size=v.cells.length∧x.cells≠#[] ∧
  ∀ i,i < v.cells.length→(x.cells.getD i undef).oneCell'=true∧VRel w G L (v.cells.getD i .top) (x.cells.getD i undef):=by
 have hx:x.cells=#[x]:=by
  cases x<;>first | rfl | cases ho
 rw [hx,hv]
 refine ⟨rfl,by simp,fun i hi=>?_⟩
 simp only [List.length_singleton,Nat.lt_one_iff] at hi
 subst hi
 exact ⟨by simpa using ho,by simpa using h⟩
theorem VRel.cells_ {v:AV} {x:Value} (h:VRel w G L v x) (hne:v.cells≠[]):x.cells.size=v.cells.length∧x.cells≠#[] ∧
  ∀ i,i < v.cells.length→(x.cells.getD i undef).oneCell'=true∧VRel w G L (v.cells.getD i .top) (x.cells.getD i undef):=by
 cases h with
 | agg L cs vs hl ho h=>
  refine ⟨hl,fun e=>hne ?_,fun i hi=>⟨ho i hi,h i hi⟩⟩
  have e':vs=#[]:=e
  subst e'
  exact List.eq_nil_of_length_eq_zero hl.symm
 | top L x=>exact absurd rfl hne
 | tup L cs vs hl h=>exact absurd rfl hne
 | own L a n m x hLa hm hle ho h=>exact one_cells (.own _ a n m x hLa hm hle ho h) (by rcases ho with ⟨_,rfl⟩ | ⟨b,c,rfl⟩<;>rfl) rfl
 | eptr L a n sz i o m b hLa hm hle h=>exact one_cells (.eptr _ a n sz i o m b hLa hm hle h) rfl rfl
 | bool L b=>exact one_cells (.bool _ _) rfl rfl
 | int L k n=>exact one_cells (.int _ _ _) rfl rfl
 | str L s=>exact one_cells (.str _ _) rfl rfl
 | nils L=>exact one_cells (.nils _) rfl rfl
 | emp L a=>exact one_cells (.emp _ _) rfl rfl
 | lst0 L a c=>exact one_cells (.lst0 _ _ _) rfl rfl
 | lst L es b off c sz vf hle hs hc hv=>exact one_cells (.lst _ es b off c sz vf hle hs hc hv) rfl rfl
 | ptr L a o b hLa hm h=>exact one_cells (.ptr _ a o b hLa hm h) rfl rfl
 | iptr L e o b off vf hc hv=>exact one_cells (.iptr _ e o b off vf hc hv) rfl rfl
 | nilp L=>exact one_cells (.nilp _) rfl rfl
 | fn L f a b va vb hla hlb ha hb=>exact one_cells (.fn _ f a b va vb hla hlb ha hb) rfl rfl
 | nilf L=>exact one_cells (.nilf _) rfl rfl
 | iface L t v x h=>exact one_cells (.iface _ t v x h) rfl rfl
 | nili L=>exact one_cells (.nili _) rfl rfl
 | mp L a b hLa hm h=>exact one_cells (.mp _ a b hLa hm h) rfl rfl
 | nilm L=>exact one_cells (.nilm _) rfl rfl
 | anyp L p=>exact one_cells (.anyp _ p) rfl rfl
def CellsRel (w:World) (G:Gm) (L:Loc→Prop) (cs:List AV) (vs:Array Value):Prop:=
 vs.size=cs.length∧∀ i,i < cs.length→(vs.getD i undef).oneCell'=true∧VRel w G L (cs.getD i .top) (vs.getD i undef)
theorem VRel.cellsRel {v:AV} {x:Value} (h:VRel w G L v x) (hne:0 < v.cells.length):CellsRel w G L v.cells x.cells:=by
 obtain ⟨h1,_,h3⟩:=h.cells_ (fun e=>by rw [e] at hne;simp at hne)
 exact ⟨h1,h3⟩
theorem CellsRel.agg {cs:List AV} {vs:Array Value} (h:CellsRel w G L cs vs):VRel w G L (.agg cs) (.agg vs):=
 .agg _ _ _ h.1 (fun i hi=>(h.2 i hi).1) fun i hi=>(h.2 i hi).2
theorem size_setRun (off:Nat):∀ (l:List (Value×Nat)) (cs:Array Value),(l.foldl (fun cs (x:Value×Nat)=>cs.setIfInBounds (off+x.2) x.1) cs).size=cs.size
 | [],cs=>rfl
 | x :: l,cs=>by simp [size_setRun off l]
theorem get_setRun (off:Nat):∀ (l:List Value) (s:Nat) (cs:Array Value) (k:Nat),off+s+l.length≤cs.size →
  ((l.zipIdx s).foldl (fun cs (x:Value×Nat)=>cs.setIfInBounds (off+x.2) x.1) cs)[k]?=if off+s≤k∧k < off+s+l.length then l[k - (off+s)]? else cs[k]?
 | [],s,cs,k,h=>by simp;intro h1 h2;omega
 | x :: l,s,cs,k,h=>by
  simp only [List.zipIdx_cons,List.foldl_cons]
  rw [get_setRun off l (s+1) _ k (by simp at h ⊢;omega)]
  simp only [List.length_cons,Array.getElem?_setIfInBounds]
  by_cases h1:off+s=k
  ·subst h1
   rw [if_neg (by omega),if_pos rfl,if_pos (by simp at h;omega),if_pos (by omega)]
   simp
  ·rw [if_neg h1]
   by_cases h2:off+(s+1)≤k∧k < off+(s+1)+l.length
   ·rw [if_pos h2,if_pos (by omega)]
    obtain ⟨d,rfl⟩:∃ d,k=off+s+1+d:=⟨k - (off+s+1),by omega⟩
    rw [show off+s+1+d - (off+(s+1))=d by omega,show off+s+1+d - (off+s)=d+1 by omega]
    simp
   ·rw [if_neg h2,if_neg (by omega)]
theorem CellsRel.splice {cs ds:List AV} {vs us:Array Value} (h:CellsRel w G L cs vs) (k:CellsRel w G L ds us) {off:Nat} (ho:off+ds.length≤cs.length) :
  CellsRel w G L (cs.take off++ds++cs.drop (off+ds.length)) (us.zipIdx.foldl (fun cs (x:Value×Nat)=>cs.setIfInBounds (off+x.2) x.1) vs):=by
 have hs:(us.zipIdx.foldl (fun cs (x:Value×Nat)=>cs.setIfInBounds (off+x.2) x.1) vs).size=vs.size:=by
  rw [←Array.foldl_toList];exact size_setRun off _ _
 have hlen:(cs.take off++ds++cs.drop (off+ds.length)).length=cs.length:=by simp;omega
 refine ⟨by rw [hs,hlen,h.1],fun i hi=>?_⟩
 rw [hlen] at hi
 have hg:(us.zipIdx.foldl (fun cs (x:Value×Nat)=>cs.setIfInBounds (off+x.2) x.1) vs)[i]?=if off≤i∧i < off+us.size then us[i - off]? else vs[i]?:=by
  rw [←Array.foldl_toList,Array.toList_zipIdx]
  have:=get_setRun off us.toList 0 vs i (by have:=h.1;have:=k.1;simp;omega)
  simpa using this
 have hu:=k.1
 by_cases c:off≤i∧i < off+us.size
 ·have e1:(cs.take off++ds++cs.drop (off+ds.length)).getD i .top=ds.getD (i - off) .top:=by
   simp only [List.getD_eq_getElem?_getD]
   rw [List.append_assoc,List.getElem?_append_right (by simp;omega),List.getElem?_append_left (by simp;omega)]
   simp only [List.length_take]
   rw [Nat.min_eq_left (by omega)]
  have e2:(us.zipIdx.foldl (fun cs (x:Value×Nat)=>cs.setIfInBounds (off+x.2) x.1) vs).getD i undef=us.getD (i - off) undef:=by
   rw [Array.getD_eq_getD_getElem?,hg,if_pos c,Array.getD_eq_getD_getElem?]
  rw [e1,e2]
  exact k.2 _ (by omega)
 ·have e1:(cs.take off++ds++cs.drop (off+ds.length)).getD i .top=cs.getD i .top:=by
   simp only [List.getD_eq_getElem?_getD]
   by_cases h1:i < off
   ·rw [List.append_assoc,List.getElem?_append_left (by simp;omega),List.getElem?_take_of_lt h1]
   ·rw [List.getElem?_append_right (by simp;omega),List.getElem?_drop]
    congr 2
    simp
    omega
  have e2:(us.zipIdx.foldl (fun cs (x:Value×Nat)=>cs.setIfInBounds (off+x.2) x.1) vs).getD i undef=vs.getD i undef:=by
   rw [Array.getD_eq_getD_getElem?,hg,if_neg c,Array.getD_eq_getD_getElem?]
  rw [e1,e2]
  exact h.2 _ hi
theorem fill_rel {e:Env} {a:Act} (he:EnvRel w G L e a) {pl:Nat→Option (Nat×Nat)}:∀ {ps:List (Nat×Operand)} {qs:List (Nat×Nat×Opd)} {z:List AV} {zs:Array Value} {r:List AV},
  partsOf pl ps=some qs→CellsRel w G L z zs→fillC z (qs.map fun (o,s,x)=>(o,s,x.ev e))=some r →
  ∃ cells,Instr.fill pl zs (ps.map fun (i,x)=>(i,a.eval x))=some cells∧CellsRel w G L r cells
 | [],qs,z,zs,r,h,hz,hr=>by
  simp only [partsOf,Option.some.injEq] at h
  subst h
  simp only [List.map_nil,fillC,Option.some.injEq] at hr
  subst hr
  exact ⟨zs,rfl,hz⟩
 | (i,x) :: ps,qs,z,zs,r,h,hz,hr=>by
  simp only [partsOf] at h
  cases hx:cOpd x with
  | none=>simp [hx] at h
  | some y=>
   cases hp:partsOf pl ps with
   | none=>simp [hx,hp] at h
   | some s=>
    cases hi:pl i with
    | none=>simp [hx,hp,hi] at h
    | some q=>
     obtain ⟨off,sz⟩:=q
     simp only [hx,hp,hi,Option.some.injEq] at h
     subst h
     simp only [List.map_cons,fillC] at hr
     split at hr
     ·rename_i c
      obtain ⟨c1,c2,c3⟩:=c
      have hv:=(opd_rel he hx).cellsRel (by omega)
      have hsz:=hv.1
      have hzs:=hz.1
      have hk:=hz.splice hv (off:=off) (by rw [c1];exact c3)
      rw [c1] at hk
      obtain ⟨cells,k1,k2⟩:=fill_rel he hp hk hr
      refine ⟨cells,?_,k2⟩
      simp only [List.map_cons,Instr.fill,hi]
      rw [if_neg,←k1]
      simp only [Bool.or_eq_true,bne_iff_ne,ne_eq,decide_eq_true_eq,not_or,decide_not,Bool.not_eq_true',decide_eq_false_iff_not,Decidable.not_not]
      omega
     ·cases hr
end Go.Ab
