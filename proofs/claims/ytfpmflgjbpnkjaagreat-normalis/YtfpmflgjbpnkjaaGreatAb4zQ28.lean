/-
  The reference's normal form of a condition.
-/
import Derived.Test.YtfpmflgjbpnkjaaGreatAb4zQ27
import Derived.Test.YtfpmflgjbpnkjaaGreatAb4zP99
set_option linter.unusedVariables false
set_option linter.unusedSimpArgs false
set_option linter.unusedSectionVars false
namespace Go.Ab.Pz
open Go.Ab.Pol
set_option maxRecDepth 100000
set_option maxHeartbeats 4000000
theorem gnr_nfp {us:List Us} {l:List Sc} {Q:Nd→Prop} {c:Cd} (h:Cst c∨NF us l Q c):GNr c:=by
 refine ⟨gne_nfp h,fun k n vs e=>?_⟩
 subst e
 rcases h with ⟨b,e⟩ | h
 ·cases b<;>simp [cB] at e<;>omega
 ·rcases h.2 with q | q<;>have:=q.1<;>omega
section
variable (p:Po) (hp:Sz p) (l:Sl Sc) (hl:okL l) (hr:readyE p l.l=0) (hN:∀ n∈p.nodes.l,Nm32 n) (b0:Loc)
include hp hl hr hN
mutual
theorem f52:∀ (s:Tr) (neg:Bool),NOk p l.l s→∀ h:Heap,hget h b0=some (.box 105 false (mkAV p l))→b0.1 < h.length→(mu K).fn 52 [.ptr b0 0,iV (s.i:Int),.bool neg] h=some (.val (rcAV (norm (fdOf p.uses.l l.l) neg s)) h)
 | .nd i n ks,neg,⟨⟨hn,hk,hks⟩,⟨k0,k8,c2,c5,c6,c7,c8⟩,⟨hfm,hwf⟩,hlen⟩,h,hb,lb=>by
  have up:∀ F,hget (F :: h) b0=some (.box 105 false (mkAV p l)):=fun F=>by simp only [hget];rw [if_neg (by omega)];exact hb
  have lup:∀ F:List Blk,b0.1 < (F :: h).length:=fun F=>by simp only [List.length_cons];omega
  have ihs:n.k≤5→∀ t∈ks,∀ (neg:Bool) (h:Heap),hget h b0=some (.box 105 false (mkAV p l))→b0.1 < h.length→(mu K).fn 52 [.ptr b0 0,iV (t.i:Int),.bool neg] h=some (.val (rcAV (norm (fdOf p.uses.l l.l) neg t)) h):=fun h5=>
   f52s ks hks (c5 h5) (by rw [decide_eq_true h5] at hwf;exact hwf) (by simp only [Tr.subs,List.length_cons] at hlen;omega)
  have hsl:(Tr.subss ks).length≤1000:=by simp only [Tr.subs,List.length_cons] at hlen;omega
  have hkl:n.kids.l.length=ks.length:=by rw [hk];simp
  have hkm:ks.length≤1000:=Nat.le_trans (ks_subs ks) hsl
  obtain ⟨f0,f1,f2,f3,f4,f5,f6⟩:=form_parts hfm
  have node:∀ t∈ks,p.nodes.l[t.i]?=some t.n:=fun t ht=>(sub_node (Pol.isTs_iff.1 hks t ht)).1
  have nm:∀ t∈ks,Nm32 t.n:=fun t ht=>hN _ (List.mem_of_getElem? (node t ht))
  have kid:∀ (j:Nat) (t:Tr),ks[j]?=some t→n.kids.l[j]?=some (t.i:Int):=fun j t e=>by rw [hk,List.getElem?_map,e];rfl
  have hfd:∀ n,FdV (fdOf p.uses.l l.l n):=fun n=>by obtain ⟨q1,q2,q3,q4⟩:=fdx_fd (p:=p) (ready_of hr).sch n;exact ⟨by omega,by omega⟩
  have wnf:∀ {how:Int} {a b:Nd},Wt p.uses.l l.l how a b→Cst (values (fdOf p.uses.l l.l) how a b)∨NF p.uses.l l.l (fun _=>True) (values (fdOf p.uses.l l.l) how a b):=fun w=>values_nf w (fun _=>trivial) (fun _=>trivial)
  obtain ⟨env,ka,he⟩:=p52_a p l neg b0 h hb lb i n hn
  have k82:∀ (how:Int) (t u:Tr),t∈ks→u∈ks→Wt p.uses.l l.l (sg neg how) t.n u.n→∀ B,(mu K).fn 82 [.ptr b0 0,iV (sg neg how),t.n.av,u.n.av] (F52 n B :: h) =
    some (.val (rcAV (values (fdOf p.uses.l l.l) (sg neg how) t.n u.n)) (F52 n B :: h)):=fun how t u ht hu w B=>by
   rw [f82 p hp l hl b0 (F52 n B :: h) hr (sg neg how) w.1 t.n u.n (nm t ht) (nm u hu) (up _) (lup _),rvalues_eq hfd w]
  have k86:∀ (k:Int),-1000000≤k∧k≤1000000→∀ (cs:List Cd),(∀ c∈cs,GNr c)→Cd.sizes cs≤400000→∀ B,(mu K).fn 86 [iV k,.lst (cs.map rcAV)] (F52 n B :: h)=some (.val (rcAV (thr k cs)) (F52 n B :: h)):=fun k hk cs hg hs B=>by
   have:=f86 k hk cs hg (by omega) false (F52 n B :: h)
   simpa using this
  rw [fn_go (KX _ _ _) fn52 p52_body (by simp [c52])]
  have hassoc:evC K (mu K) (.seq p52_0 (.seq p52_1 (.seq p52_2 (.seq p52_3 (.seq p52_4 (.seq p52_5 (.seq p52_6 (.seq p52_7 (.seq p52_8 (.seq p52_9 p52_10)))))))))) ⟨envOf 0 [.ptr b0 0,iV (i:Int),.bool neg],[] :: h⟩ =
    goS K (mu K) (.seq p52_3 (.seq p52_4 (.seq p52_5 (.seq p52_6 (.seq p52_7 (.seq p52_8 (.seq p52_9 p52_10))))))) (evC K (mu K) (.seq p52_0 (.seq p52_1 p52_2)) ⟨envOf 0 [.ptr b0 0,iV (i:Int),.bool neg],[] :: h⟩):=by
   simp only [c_seq]
   generalize evC K (mu K) p52_0 ⟨envOf 0 [.ptr b0 0,iV (i:Int),.bool neg],[] :: h⟩=s0
   simp only [go_assoc]
  simp only [Tr.i]
  rw [hassoc,ka,goS_norm,c_seq]
  have early:∀ c:Cd,(∃ env' F',evC K (mu K) p52_3 ⟨env,F52 n (.arr 0 0 false []) :: h⟩=some (.ret,⟨env',(.box 109 false (rcAV c) :: F') :: h⟩)∧get env' 6=.ptr (h.length,0) 0) →
    goF c52.res (goS K (mu K) (.seq p52_4 (.seq p52_5 (.seq p52_6 (.seq p52_7 (.seq p52_8 (.seq p52_9 p52_10)))))) (evC K (mu K) p52_3 ⟨env,F52 n (.arr 0 0 false []) :: h⟩))=some (.val (rcAV c) h):=by
   rintro c ⟨env',F',k,g⟩
   rw [k,ret_seq]
   exact ret52 env' c F' h g
  unfold norm
  by_cases e0:n.k=0
  ·rw [if_pos e0]
   have:=early _ (p52_01 neg b0 h n _ env 0 he (.inl e0))
   simpa [e0] using this
  rw [if_neg e0]
  by_cases e1:n.k=1
  ·rw [if_pos e1]
   have:=early _ (p52_01 neg b0 h n _ env 0 he (.inr e1))
   simpa [e1] using this
  rw [if_neg e1]
  by_cases e2:n.k=2
  ·rw [if_pos e2]
   obtain ⟨t,rfl⟩:=one_of (c2 e2)
   exact early _ (p52_k2 neg b0 h n _ env 0 he e2 t.i (kid 0 t rfl) _ (fun B=>ihs (by omega) t (by simp) (!neg) _ (up _) (lup _)))
  rw [if_neg e2]
  by_cases e6:n.k=6
  ·rw [if_pos e6]
   rw [e6] at f3
   obtain ⟨t,u,rfl⟩:=len2 (show ks.length=2 by rw [←hkl];simpa [kidsOk] using f3)
   exact early _ (p52_k6 p l neg b0 h hb lb n _ env 0 he e6 (c6 e6).1 t.i u.i t.n u.n (kid 0 t rfl) (kid 1 u rfl) (node t (by simp)) (node u (by simp)) _ (k82 n.num t u (by simp) (by simp) ((c6 e6).sg neg)))
  rw [if_neg e6]
  by_cases e7:n.k=7
  ·rw [if_pos e7]
   rw [e7] at f3
   obtain ⟨t,u,v,rfl⟩:=len3 (show ks.length=3 by rw [←hkl];simpa [kidsOk] using f3)
   obtain ⟨w1,w2⟩:=c7 e7
   have q0:kidN [t,u,v] 0=t.n:=rfl
   have q1:kidN [t,u,v] 1=u.n:=rfl
   have q2:kidN [t,u,v] 2=v.n:=rfl
   rw [q0,q1] at w1
   rw [q0,q2] at w2
   rw [q0,q1,q2]
   have hx:n.kids.l=[(t.i:Int),(u.i:Int),(v.i:Int)]:=by rw [hk];rfl
   by_cases c:neg=false∧t.n.k=9∧u.n.k=10∧v.n.k=10
   ·rw [if_pos c]
    exact early _ (p52_k7t p l neg b0 h hb lb n _ env 0 he e7 c.1 t.i u.i v.i t.n u.n v.n hx (node t (by simp)) (node u (by simp)) (node v (by simp)) c.2 _ (fun B=>f85 p hp l hl b0 t.n _ _ _ (up _) (lup _)))
   ·rw [if_neg c]
    refine early _ (p52_k7f p l neg b0 h hb lb n env he e7 t.i u.i v.i t.n u.n v.n hx (node t (by simp)) (node u (by simp)) (node v (by simp)) c _ _ _ (k82 5 t u (by simp) (by simp) (w1.sg neg)) (k82 3 t v (by simp) (by simp) (w2.sg neg)) ?_)
    have e12:(if neg=true then ((([values (fdOf p.uses.l l.l) (sg neg 5) t.n u.n,values (fdOf p.uses.l l.l) (sg neg 3) t.n v.n]:List Cd).length:Int) - 2+1) else 2)=(if neg=true then 1 else 2):=by cases neg<;>rfl
    unfold ofC
    rw [e12]
    refine k86 _ (by split<;>omega) [_,_] (fun c hc=>?_) ?_
    ·simp only [List.mem_cons,List.not_mem_nil,or_false] at hc
     rcases hc with rfl | rfl
     ·exact gnr_nfp (wnf (w1.sg neg))
     ·exact gnr_nfp (wnf (w2.sg neg))
    ·have a1:=values_size (fdOf p.uses.l l.l) (sg neg 5) t.n u.n
     have a2:=values_size (fdOf p.uses.l l.l) (sg neg 3) t.n v.n
     simp only [Cd.sizes]
     omega
  rw [if_neg e7]
  by_cases e8:n.k=8
  ·rw [if_pos e8]
   rw [e8] at f3
   have h2:2≤ks.length:=by rw [←hkl];simpa [kidsOk] using f3
   obtain ⟨t,ht⟩:∃ t,ks[0]?=some t:=⟨ks[0],List.getElem?_eq_getElem (by omega)⟩
   rw [kid_n ht]
   have c8:=c8 e8
   rw [kid_n ht] at c8
   have hall:∀ x∈n.kids.l,∃ (j:Nat) (b:Nd),x=(j:Int)∧p.nodes.l[j]?=some b:=fun x hx=>by
    rw [hk] at hx
    obtain ⟨u,hu,rfl⟩:=List.mem_map.1 hx
    exact ⟨u.i,u.n,rfl,node u hu⟩
   have hV:(n.kids.l.drop 1).map (fun x=>match p.nodes.l[x.toNat]? with | some b=>values (fdOf p.uses.l l.l) (sg neg 0) t.n b | none=>cB true)=(ks.drop 1).map fun u=>values (fdOf p.uses.l l.l) (sg neg 0) t.n u.n:=by
    rw [hk,←List.map_drop,List.map_map]
    apply List.map_congr_left
    intro u hu
    simp only [Function.comp,Int.toNat_natCast]
    rw [node u (List.mem_of_mem_drop hu)]
   refine early _ (p52_k8 p l neg b0 h hb lb n env he e8 (by omega) (by omega) t.i t.n (kid 0 t ht) (node t (List.mem_of_getElem? ht)) hall (fun x=>match p.nodes.l[x.toNat]? with | some b=>values (fdOf p.uses.l l.l) (sg neg 0) t.n b | none=>cB true) _ (fun j b B hj hbj=>?_) ?_)
   ·rw [hk,←List.map_drop] at hj
    obtain ⟨u,hu,e⟩:=List.mem_map.1 hj
    have ej:u.i=j:=by exact_mod_cast e
    have nu:=node u (List.mem_of_mem_drop hu)
    rw [ej,hbj] at nu
    injection nu with nu
    subst nu
    simp only [Int.toNat_natCast]
    rw [hbj]
    exact k82 0 t u (List.mem_of_getElem? ht) (List.mem_of_mem_drop hu) ((c8 u hu).sg neg) B
   ·rw [hV]
    have hvl:((ks.drop 1).map fun u=>values (fdOf p.uses.l l.l) (sg neg 0) t.n u.n).length=(ks.drop 1).length:=by simp
    have e12:(if neg=true then ((((ks.drop 1).map fun u=>values (fdOf p.uses.l l.l) (sg neg 0) t.n u.n).length:Nat):Int) else 1)=(if neg=true then ((((ks.drop 1).map fun u=>values (fdOf p.uses.l l.l) (sg neg 0) t.n u.n).length:Nat):Int) - 1+1 else 1):=by rw [Int.sub_add_cancel]
    rw [e12]
    unfold ofC
    have a2:(ks.drop 1).length≤ks.length:=by simp
    refine k86 _ (by rw [hvl];split<;>omega) _ (fun c hc=>?_) ?_
    ·obtain ⟨u,hu,rfl⟩:=List.mem_map.1 hc
     exact gnr_nfp (wnf ((c8 u hu).sg neg))
    ·have a1:=sizes_map (fun u:Tr=>values (fdOf p.uses.l l.l) (sg neg 0) t.n u.n) (fun u=>values_size _ _ _ _) (ks.drop 1)
     omega
  rw [if_neg e8]
  have e5:n.k=3∨n.k=4∨n.k=5:=by omega
  have h5:n.k≤5:=by omega
  obtain ⟨env2,k2,he2⟩:=p52_k5 neg b0 h n env he e5
  rw [k2,goS_norm]
  have hnf:∀ c∈norms (fdOf p.uses.l l.l) neg ks,GNr c:=fun c hc=>gnr_nfp (norms_nf (Q:=fun _=>True) ks neg (c5 h5) (fun _ _ _ _ _=>trivial) c hc)
  have hsz:=norms_size (fdOf p.uses.l l.l) ks neg
  obtain ⟨k0,hk0⟩:∃ k0,k0=if n.k=3 then (ks.length:Int) else if n.k=4 then 1 else n.num:=⟨_,rfl⟩
  have hnum:0≤k0∧k0≤500000:=by
   rw [hk0]
   split
   ·omega
   split
   ·omega
   ·rename_i d3 d4
    have d5:n.k=5:=by omega
    simp only [lowN,highN,d5] at f5 f6
    simp at f5 f6
    omega
  have hnl:(norms (fdOf p.uses.l l.l) neg ks).length=ks.length:=by rw [norms_map];simp
  have kk:=k86 (if neg=true then (ks.length:Int) - k0+1 else k0) (by split<;>omega) (norms (fdOf p.uses.l l.l) neg ks) hnf (by omega)
  rw [norms_map] at kk
  rw [p52_gate neg b0 h n env2 he2 e5 ks hk hkm (norm (fdOf p.uses.l l.l) neg) _ k0 hk0 hnum (fun k hk B=>ihs h5 k hk neg _ (up _) (lup _)) kk,←norms_map]
  have fin:∀ kq,kq=k0→rcAV (thr (if neg=true then (ks.length:Int) - k0+1 else k0) (norms (fdOf p.uses.l l.l) neg ks))=rcAV (ofC neg kq (norms (fdOf p.uses.l l.l) neg ks)):=fun kq e=>by
   unfold ofC
   rw [e,hnl]
  by_cases d3:n.k=3
  ·rw [if_pos d3] at hk0
   rw [if_pos d3,fin _ hk0.symm]
  by_cases d4:n.k=4
  ·rw [if_neg d3,if_pos d4] at hk0
   rw [if_neg d3,if_pos d4,fin _ hk0.symm]
  ·rw [if_neg d3,if_neg d4] at hk0
   rw [if_neg d3,if_neg d4,fin _ hk0.symm]
theorem f52s:∀ (ts:List Tr),Pol.IsTs p.nodes.l ts→Tws p.uses.l l.l ts→WFs ts true→(Tr.subss ts).length≤1000→∀ t∈ts,∀ (neg:Bool) (h:Heap),hget h b0=some (.box 105 false (mkAV p l))→b0.1 < h.length→(mu K).fn 52 [.ptr b0 0,iV (t.i:Int),.bool neg] h=some (.val (rcAV (norm (fdOf p.uses.l l.l) neg t)) h)
 | [],_,_,_,_,t,ht,_,_,_,_=>by cases ht
 | s :: ts,h1,h2,h3,h4,t,ht,neg,h,hb,lb=>by
  simp only [Tr.subss,List.length_append] at h4
  rcases List.mem_cons.1 ht with e | ht
  ·rw [e]
   exact f52 s neg ⟨h1.1,h2.1,h3.1,by omega⟩ h hb lb
  ·exact f52s ts h1.2 h2.2 h3.2 (by omega) t ht neg h hb lb
end
end
end Go.Ab.Pz
