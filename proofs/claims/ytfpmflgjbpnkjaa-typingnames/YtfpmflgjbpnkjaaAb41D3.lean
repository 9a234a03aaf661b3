/-
  slices.Delete of one element: the evaluator knows it.
-/
import Derived.Test.YtfpmflgjbpnkjaaAb41D2
import Derived.Test.YtfpmflgjbpnkjaaAbUse
import Derived.Test.YtfpmflgjbpnkjaaAbTop
set_option linter.unusedVariables false
set_option linter.unusedSimpArgs false
namespace Go.Ab.Pl
open Go.Ab Go.Proofs Go.RowKit
theorem sc_os (b:Nat):∀ (vs:List Value) (o:Nat) (w:World),(w.setCells b o vs).os=w.os∧(w.setCells b o vs).tape=w.tape∧(w.setCells b o vs).output=w.output∧(w.setCells b o vs).heap.size=w.heap.size∧∀ k,k≠b→(w.setCells b o vs).heap[k]?=w.heap[k]?
 | [],_,_=>⟨rfl,rfl,rfl,rfl,fun _ _=>rfl⟩
 | v :: r,o,w=>by
  obtain ⟨h1,h2,h3,h4,h5⟩:=sc_os b r (o+1) (w.setCell ⟨b,o,none⟩ v)
  refine ⟨h1,h2,h3,h4.trans (by simp [World.setCell]),fun k hk=>(h5 k hk).trans ?_⟩
  unfold World.setCell
  simp [Array.getElem?_modify,Ne.symm hk]
theorem erase_getD {α:Type} (d:α) (l:List α) (i j:Nat):(l.eraseIdx i).getD j d=if j < i then l.getD j d else l.getD (j+1) d:=by
 simp only [List.getD_eq_getElem?_getD,List.getElem?_eraseIdx]
 split<;>rfl
set_option maxHeartbeats 1000000 in
theorem del_ok {w:World} {G:Gm} {h:Heap} {xs:Array Value} {a:Loc} {m i:Nat} {es:List AV} (hs:Sim w G h) (hn:h≠[]) (ha:ArgsRel w G (dom h) [.own a m,.int .i64 (i:Int),.int .i64 ((i+1:Nat):Int)] xs)
  (hg:hget h a=some (.arr 67 2 false es)) (hl:es.length=m) (hi:i < m) :
  Calls Try.prog 48 xs w (EndRel w G h (.val (.own (hnext h) (m - 1)) (hnew (hset h a .dead) (.arr 67 2 false (es.eraseIdx i))))):=by
 obtain ⟨z1,z2⟩:=ha
 obtain ⟨xs⟩:=xs
 match xs,z1 with
 | [x,y,z],_=>
  have k0:=z2 0 (by simp)
  have k1:=z2 1 (by simp)
  have k2:=z2 2 (by simp)
  simp only [List.getD_cons_zero,List.getD_cons_succ] at k0 k1 k2
  have e1:y=.int .i64 (i:Int):=by cases k1;rfl
  have e2:z=.int .i64 ((i+1:Nat):Int):=by cases k2;rfl
  subst e1 e2
  obtain ⟨l0,hd⟩:=hs.blk a _ hg
  have hda:dom h a:=dom_of hg
  obtain ⟨b,c,q1,q2,q3,q4,q5,q6,q7,q8⟩:∃ b c,G.blk a=some b∧w.heap[b]?=some (.cells c 67 (0,0))∧c.size=G.cap a * 2∧0 < 2∧es.length≤G.cap a∧G.cap a≤maxLen ∧
    (∀ i,i < es.length→(es.getD i .top).cells.length=2∧∀ j,j < 2→(c.getD (i * 2+j) undef).oneCell'=true∧VRel w G NoLoc ((es.getD i .top).cells.getD j .top) (c.getD (i * 2+j) undef))∧(∀ o,¬ G.imm b o):=by
   rcases hd with ⟨_,h2⟩ | ⟨b,c,q1,q2,q3,q4,q5,q6,q7,q8⟩
   ·rw [h2] at hl;simp at hl;omega
   ·exact ⟨b,c,q1,q2,q3,by decide,q5,q6,q7,fun o hi=>by have:=(q8 o hi).1;cases this⟩
  have ex:x=.slice (some ⟨b,0,none⟩) m (G.cap a):=by
   cases k0 with
   | own _ _ _ m2 _ _ hm2 _ _ hx=>
    rw [l0] at hm2
    injection hm2 with hm2
    refine (hx (by omega)).trans ?_
    unfold ownVal
    rw [q1]
  subst ex
  refine (Del.calls b (G.cap a) i m c w q2 q3 (by omega) q6 hi fun j hj=>?_).mono ?_
  ·have:=((q7 (j / 2) (by omega)).2 (j % 2) (by omega)).1
   rwa [show j / 2 * 2+j % 2=j by omega] at this
  rintro e w' ⟨rfl,vs,o,us,rfl,v1,rfl,v2,v3⟩
  obtain ⟨a1,a2,a3,a4,a5⟩:=sc_os b vs (i * 2) w.drew
  obtain ⟨b1,b2,b3,b4,b5⟩:=sc_os b us ((m - 1) * 2) (w.drew.setCells b (i * 2) vs)
  obtain ⟨c1,r1,r2,r3⟩:=Del.row vs (i * 2) w.drew c q2 (by omega)
  obtain ⟨c2,t1,t2,t3⟩:=Del.row us ((m - 1) * 2) _ c1 r1 (by omega)
  generalize (w.drew.setCells b (i * 2) vs).setCells b ((m - 1) * 2) us=w' at *
  have w1:w'.heap.size=w.heap.size:=b4.trans a4
  have w2:∀ k,k≠b→w'.heap[k]?=w.heap[k]?:=fun k hk=>(b5 k hk).trans (a5 k hk)
  have hc:∀ J,J < (m - 1) * 2→c2.getD J undef=c.getD (if J < i * 2 then J else J+2) undef:=fun J hJ=>by
   rw [t3 J,if_neg (by omega),r3 J]
   by_cases c0:J < i * 2
   ·rw [if_neg (by omega),if_pos c0]
   ·rw [if_pos (by omega),if_neg c0,v3 _ (by omega)]
    congr 1
    omega
  let G1:Gm:={ G with blk:=fun x=>if x=a then none else G.blk x,len:=fun x=>if x=a then some (m+1) else G.len x }
  have hA1:Agree G G1 a:=.inr ⟨m,m+1,by rw [l0,hl],by simp [G1],by omega⟩
  have hI:ImmKept w G w' G1:=fun r p hr=>⟨hr,World.cell?_of_block (w2 r fun e=>by subst e;exact q8 p hr)⟩
  have hoth:∀ k,k < w.heap.size→G.blk a≠some k→w'.heap[k]?=w.heap[k]?:=fun k _ hk=>w2 k fun e=>hk (by rw [e];exact q1)
  have hG1:∀ a',a'≠a→G1.blk a'=G.blk a'∧G1.len a'=G.len a'∧G1.cap a'=G.cap a':=fun a' e=>by simp [G1,e]
  have S1:Sim w' G1 (hset h a .dead):=hs.update hda (by omega) hoth hG1 hA1 hI (fun _ _ hi=>.inl hi) (fun k hk=>by simp [G1] at hk) (fun k hk=>by simp [G1] at hk)
  have Go1:Goes w G h w' G1 (hset h a .dead):=Goes.update hda (b1.trans a1) (b2.trans a2) (b3.trans a3) (by omega) hoth hG1 hA1 hI (fun k hk=>by simp [G1] at hk) (fun _ _ hi=>.inl hi)
  have hn1:=hset_ne hn a .dead
  have hnx:=hnext_hset h a .dead
  have hfr:¬ Held G1 (hset h a .dead) b:=fun hh=>by
   rcases hh with ⟨q,hq,e⟩ | hh
   ·have e':(if q=a then none else G.blk q)=some b:=e
    split at e'
    ·cases e'
    ·rename_i hqa
     exact hqa (hs.inj q a b ((dom_hset _ _ _ _).1 hq) hda e' q1)
   ·cases e0:G.tl b with
    | none=>exact hh e0
    | some y=>exact (hs.prv b y e0).2 a hda q1
  have hIe:ImmKept w G w' (G1.at_ (hnext h) (some b) (some (m - 1)) (G.cap a)):=fun r p hr=>⟨hr,(hI r p hr).2⟩
  have S2:=S1.new_ (w':=w') (B:=.arr 67 2 false (es.eraseIdx i)) (b:=some b) (n:=some (m - 1)) (c:=G.cap a) hn1 (Nat.le_refl _) (fun _ _=>rfl) (fun k hk=>by injection hk with hk;subst hk;exact hfr) (by
   rw [hnx]
   refine ⟨by simp [Gm.at_,List.length_eraseIdx,hl,hi],.inr ⟨b,c2,by simp [Gm.at_],t1,by simp [Gm.at_];omega,by decide,by simp [Gm.at_,List.length_eraseIdx,hl,hi];omega,by simpa [Gm.at_] using q6,fun j hj=>?_,fun p hp=>absurd hp (q8 p)⟩⟩
   have hj:j < m - 1:=by simpa [List.length_eraseIdx,hl,hi] using hj
   rw [erase_getD]
   by_cases c0:j < i
   ·rw [if_pos c0]
    refine ⟨(q7 j (by omega)).1,fun j' hj'=>?_⟩
    rw [hc _ (by omega),if_pos (by omega)]
    exact ⟨((q7 j (by omega)).2 j' hj').1,((q7 j (by omega)).2 j' hj').2.mono hIe fun _ e=>e.elim⟩
   ·rw [if_neg c0]
    refine ⟨(q7 (j+1) (by omega)).1,fun j' hj'=>?_⟩
    rw [hc _ (by omega),if_neg (by omega),show j * 2+j'+2=(j+1) * 2+j' by omega]
    exact ⟨((q7 (j+1) (by omega)).2 j' hj').1,((q7 (j+1) (by omega)).2 j' hj').2.mono hIe fun _ e=>e.elim⟩)
  rw [hnx] at S2
  have hne:∀ q,dom h q→q≠hnext h:=fun q hq e=>by rw [e] at hq;unfold dom at hq;rw [hnext_fresh h] at hq;cases hq
  refine ⟨_,S2,?_,_,rfl,?_⟩
  ·refine ⟨Go1.os,Go1.tape,Go1.output,Go1.size,Go1.heap,fun r hr hlt=>?_,hIe,fun z hz=>⟨?_,?_⟩,by rw [outHeap,hnew_length,hset_length],?_,fun _ _ _ _ hi=>hi⟩
   ·rcases hr with ⟨z,hz,ez⟩ | hr
    ·rw [outHeap,dom_hnew hn1,hnx,dom_hset] at hz
     by_cases cz:z=hnext h
     ·have:b=r:=by simpa [Gm.at_,cz] using ez
      subst this
      exact .of hda q1
     ·have ez':G1.blk z=some r:=by
       have e0:(if z=hnext h then some b else G1.blk z)=some r:=ez
       rwa [if_neg cz] at e0
      exact Go1.img r (.of ((dom_hset _ _ _ _).2 (hz.resolve_left cz)) ez') hlt
    ·exact .inr hr
   ·rw [outHeap,dom_hnew hn1,dom_hset];exact .inr hz
   ·have h1:=hne z hz
    have h2:=(Go1.loc z hz).2
    rcases h2 with ⟨h3,h4,h5⟩ | ⟨n1,n2,h3,h4,h5⟩
    ·exact .inl ⟨(if_neg h1).trans h3,(if_neg h1).trans h4,(if_neg h1).trans h5⟩
    ·exact .inr ⟨n1,n2,h3,(if_neg h1).trans h4,h5⟩
   ·have h1:=hlen_hnew (hset h a .dead) (.arr 67 2 false (es.eraseIdx i))
    rw [hlen_hset] at h1
    exact h1
  ·refine .own _ _ _ (m - 1) _ (by rw [dom_hnew hn1,hnx];exact .inl rfl) (by simp [Gm.at_]) (Nat.le_refl _) (.inr ⟨b,_,rfl⟩) fun _=>?_
   simp [ownVal,Gm.at_]
end Go.Ab.Pl
