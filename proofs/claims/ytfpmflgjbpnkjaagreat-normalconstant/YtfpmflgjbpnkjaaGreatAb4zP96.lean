/-
  The normal form: thresholds.
-/
import Derived.Test.YtfpmflgjbpnkjaaGreatAb4zP92
import Derived.Test.YtfpmflgjbpnkjaaGreatAb4zP94
set_option linter.unusedVariables false
set_option linter.unusedSimpArgs false
set_option linter.unusedSectionVars false
namespace Go.Ab.Pz
open Go.Ab.Pol
set_option maxRecDepth 100000
set_option maxHeartbeats 4000000
def cdB:List Cd→Blk
 | []=>.arr 0 0 false []
 | c :: r=>.arr 97 1 false ((c :: r).map cdAV)
theorem cdB_form (d:List Cd):∃ t z,cdB d=.arr t z false (d.map cdAV)∧(z=0∨t=97∧z=1):=by
 cases d with
 | nil=>exact ⟨0,0,rfl,.inl rfl⟩
 | cons s r=>exact ⟨97,1,rfl,.inr ⟨rfl,rfl⟩⟩
theorem cdB_app (d:List Cd) (c:Cd):cdB (d++[c])=.arr 97 1 false ((d++[c]).map cdAV):=by
 cases d<;>rfl
theorem cdB_apps (d e:List Cd) (he:e≠[]):cdB (d++e)=.arr 97 1 false ((d++e).map cdAV):=by
 cases d with
 | nil=>cases e with
  | nil=>exact absurd rfl he
  | cons c r=>rfl
 | cons x r=>rfl
def thrStep (b:Int×List Cd) (c:Cd):(Int×List Cd) ⊕ Unit:=if c.isT=true then .inl (b.1 - 1,b.2) else if c.isF=true then .inl b else .inl (b.1,b.2++[c])
theorem iter_thr:∀ (cs:List Cd) (k:Int) (R:List Cd),iter thrStep (k,R) cs=.inl (k - trues cs,R++rest cs)
 | [],k,R=>by simp [iter,trues,rest]
 | c :: cs,k,R=>by
  simp only [iter,thrStep]
  by_cases h1:c.isT=true
  ·rw [if_pos h1]
   simp only
   rw [iter_thr cs]
   simp [trues,rest,h1]
   omega
  ·by_cases h2:c.isF=true
   ·rw [if_neg h1,if_pos h2]
    simp only
    rw [iter_thr cs]
    simp [trues,rest,h1,h2]
   ·rw [if_neg h1,if_neg h2]
    simp only
    rw [iter_thr cs]
    simp [trues,rest,h1,h2]
theorem l71_0_ok (k:Int) (hk:-1000000≤k∧k≤1000000) (cs:List Cd) (hc:cs.length≤1000000) (nl:Bool) (h:Heap) :
  ∃ env,(mu K).code (.loopAt 1 [0,5,15,16,17] l71_0) ⟨[(0,iV k),(5,.own (h.length,0) 0),(15,lv nl (cs.map cdAV)),(16,iV (cs.length:Int)),(17,iV 0)],[.arr 0 0 false []] :: h⟩ =
   some (.exit 0,⟨env,[cdB (rest cs)] :: h⟩)∧get env 0=iV (k - trues cs)∧get env 5=.own (h.length,0) (rest cs).length:=by
 have key:=loop_iter (K:=K) (n:=1) (live:=[0,5,15,16,17]) (a:=l71_0) thrStep
  (fun pre b=>⟨[(0,iV b.1),(5,.own (h.length,0) b.2.length),(15,lv nl (cs.map cdAV)),(16,iV (cs.length:Int)),(17,iV (pre.length:Int))],[cdB b.2] :: h⟩)
  (fun pre b=>k - pre.length≤b.1∧b.1≤k∧b.2.length≤pre.length)
  (fun b o=>∃ env,o=some (.exit 0,⟨env,[cdB b.2] :: h⟩)∧get env 0=iV b.1∧get env 5=.own (h.length,0) b.2.length)
  (fun _ _=>False) cs
  (fun pre c r b hl' hb=>by
   obtain ⟨hb1,hb2,hb3⟩:=hb
   obtain ⟨h1,h2,w1⟩:=idx_facts hl' (by omega)
   have hp:pre.length < cs.length:=(List.getElem?_eq_some_iff.1 h2).1
   have hix:=fun (kk:IntKind)=>iaF_lv (sz:=1) (nl:=nl) (l:=cs.map cdAV) (k:=kk) (j:=(pre.length:Int)) (v:=cdAV c) (by omega) (by simp [h2]) (by simp)
   have w2:IntKind.i64.wrap (b.1 - 1)=b.1 - 1:=wrap64 (by omega) (by omega)
   have r1:(b.2.length+1) * 16≤room:=by unfold room;omega
   have r2:b.2.length+1≤room:=by unfold room;omega
   obtain ⟨t0,z0,hcB,hz⟩:=cdB_form b.2
   have hz:(z0=0∨t0=97∧z0=1)=True:=by simp [hz]
   have hlb:(b.2.map cdAV).length=b.2.length:=by simp
   refine ⟨fun b' e=>?_,fun _ e=>by simp only [thrStep] at e;split at e<;>(try split at e)<;>cases e⟩
   rw [loop_go]
   generalize (mu K).code (.loopAt 1 [0,5,15,16,17] l71_0)=FF
   generalize cs.map cdAV=M at *
   clear hl'
   cases c with
   | atom ck cn vs=>
    simp only [thrStep,Cd.isT,Cd.isF,decide_eq_true_eq] at e
    have hd:cdAV (.atom ck cn vs)=atAV ck cn vs:=by rw [cdAV]
    rw [hd] at hix
    by_cases c0:ck=0
    ·rw [if_pos c0] at e
     injection e with e
     subst e
     refine ⟨⟨by simp;omega,by simp only;omega,by simp;omega⟩,?_⟩
     rw [hcB]
     simp [l71_0,KL,lendF,h1,hix,w1,w2,c0]
    by_cases c1:ck=1
    ·rw [if_neg c0,if_pos c1] at e
     injection e with e
     subst e
     refine ⟨⟨by simp;omega,hb2,by simp;omega⟩,?_⟩
     rw [hcB]
     simp [l71_0,KL,lendF,h1,hix,w1,c1]
    ·rw [if_neg c0,if_neg c1] at e
     injection e with e
     subst e
     refine ⟨⟨by simp;omega,hb2,by simp;omega⟩,?_⟩
     simp only [cdB_app]
     rw [hcB]
     simp [l71_0,KL,lendF,h1,hix,w1,c0,c1,r1,r2,hz,hlb,hd]
   | gate need ks=>
    simp [thrStep,Cd.isT,Cd.isF] at e
    have hd:cdAV (.gate need ks)=.iface 182 (.agg [iV need,.lst (cdAVs ks)]):=by rw [cdAV]
    rw [hd] at hix
    subst e
    refine ⟨⟨by simp;omega,hb2,by simp;omega⟩,?_⟩
    simp only [cdB_app]
    rw [hcB]
    simp [l71_0,KL,lendF,h1,hix,w1,r1,r2,hz,hlb,hd])
  (fun b hb=>by
   rw [loop_go]
   generalize (mu K).code (.loopAt 1 [0,5,15,16,17] l71_0)=FF
   simp [l71_0]) (k,[]) ⟨by simp,by simp,by simp⟩
 rw [iter_thr] at key
 exact key.2
theorem get_cd {α:Type} {M:List α} {i:Nat} {v:α} (h:M[i]?=some v):∀ hh,M[i]'hh=v:=fun hh=>by
 have:=List.getElem?_eq_getElem hh
 rw [h] at this
 injection this with this
 exact this.symm
def GNe (c:Cd):Prop:=∀ need ks,c=.gate need ks→ks≠[]
theorem mergeL_snoc (w:Bool) (k:Int) (c:Cd):∀ l:List Cd,mergeL w k (l++[c])=mergeL w k l++merge1 w k c
 | []=>by simp [mergeL]
 | x :: l=>by simp [mergeL,mergeL_snoc w k c l]
theorem merge_le (w:Bool) (k:Int) (l:List Cd):(mergeL w k l).length≤Cd.sizes l:=Nat.le_trans (len_sizes _) (sizes_merge w k l)
theorem l71_1_ok (k:Int) (w:Bool) (cs:List Cd) (hg:∀ c∈cs, GNe c) (hs:Cd.sizes cs≤1000000) (h:Heap) :
    ∃ env, (mu K).code (.loopAt 2 [0, 10, 11, 69, 70, 71] l71_1) ⟨[(0, iV k), (10, .bool w), (11, .own (h.length, 1) 0), (69, .own (h.length, 0) cs.length), (70, iV (cs.length:Int)), (71, iV 0)], [.arr 97 1 false (cs.map cdAV), .arr 0 0 false []] :: h⟩ =
      some (.exit 5, ⟨env, [.arr 97 1 false (cs.map cdAV), cdB (mergeL w k cs)] :: h⟩)∧get env 0=iV k∧get env 10=.bool w∧get env 11=.own (h.length, 1) (mergeL w k cs).length:=by
  have hcs:=len_sizes cs
  have key:=loop_iter (K:=K) (n:=2) (live:=[0, 10, 11, 69, 70, 71]) (a:=l71_1) (ρ:=Unit) (fun (b:List Cd) (c:Cd)=>.inl (b++merge1 w k c))
    (fun pre b=>⟨[(0, iV k), (10, .bool w), (11, .own (h.length, 1) b.length), (69, .own (h.length, 0) cs.length), (70, iV (cs.length:Int)), (71, iV (pre.length:Int))], [.arr 97 1 false (cs.map cdAV), cdB b] :: h⟩)
    (fun pre b=>b=mergeL w k pre)
    (fun b o=>∃ env, o=some (.exit 5, ⟨env, [.arr 97 1 false (cs.map cdAV), cdB b] :: h⟩)∧get env 0=iV k∧get env 10=.bool w∧get env 11=.own (h.length, 1) b.length)
    (fun _ _=>False) cs
    (fun pre c r b hl' hb=>by
      obtain ⟨h1, h2, w1⟩:=idx_facts hl' (by omega)
      have hp:pre.length < cs.length:=(List.getElem?_eq_some_iff.1 h2).1
      have hgc:=hg c (List.mem_of_getElem? h2)
      have hls:Cd.sizes cs=Cd.sizes pre+(c.size+Cd.sizes r):=by rw [hl', sizes_app];rfl
      have hbl:b.length≤Cd.sizes pre:=by rw [hb];exact merge_le w k pre
      have g2:(cs.map cdAV)[pre.length]?=some (cdAV c):=by simp [h2]
      have hcl:(cs.map cdAV).length=cs.length:=by simp
      have r1 : (b.length + 1) * 16 ≤ room := by unfold room; have : 1 ≤ c.size := by cases c <;> simp [Cd.size]
                                                 omega
      have r2:b.length+1≤room:=by unfold room at *;omega
      obtain ⟨t0, z0, hcB, hz⟩:=cdB_form b
      have hz:(z0=0∨t0=97∧z0=1)=True:=by simp [hz]
      have hlb:(b.map cdAV).length=b.length:=by simp
      refine ⟨fun b' e=>?_, fun _ e=>by cases e⟩
      injection e with e
      subst e
      refine ⟨by rw [mergeL_snoc, ← hb], ?_⟩
      rw [loop_go]
      generalize (mu K).code (.loopAt 2 [0, 10, 11, 69, 70, 71] l71_1)=FF
      generalize cs.map cdAV=M at *
      clear hl' hb
      cases c with
      | atom ck cn vs=>
        have hd:cdAV (.atom ck cn vs)=atAV ck cn vs:=by rw [cdAV]
        rw [hd] at g2
        simp only [merge1, cdB_app]
        rw [hcB]
        have g3:=get_cd g2
        simp [l71_1, KL, lendF, h1, g2, g3, hcl, hp, w1, r1, r2, hz, hlb, hd]
      | gate need ks=>
        have hd:cdAV (.gate need ks)=.iface 182 (.agg [iV need, .lst (cdAVs ks)]):=by rw [cdAV]
        rw [hd] at g2
        have g3:=get_cd g2
        have hkl:(cdAVs ks).length=ks.length:=by rw [cdAVs_map];simp
        have hks:ks.length≤Cd.sizes ks:=len_sizes ks
        have hsz:(Cd.gate need ks).size=Cd.sizes ks+1:=rfl
        have r3:(b.length+ks.length) * 16≤room:=by unfold room;omega
        have r4:b.length+ks.length≤room:=by unfold room;omega
        by_cases c1:((w && decide (need=(ks.length:Int))) || (!w && decide (k=1) && decide (need=1)))=true
        · simp only [merge1, if_pos c1]
          have ke:ks≠[]:=hgc need ks rfl
          rw [cdB_apps b ks ke, hcB]
          cases w with
          | true=>
            have n1:need=(ks.length:Int):=by simpa using c1
            subst n1
            simp [l71_1, KL, lendF, h1, g2, g3, hcl, hp, w1, r3, r4, hz, hlb, hkl, cdAVs_map]
          | false=>
            have n1:k=1∧need=1:=by simpa using c1
            obtain ⟨rfl, rfl⟩:=n1
            simp [l71_1, KL, lendF, h1, g2, g3, hcl, hp, w1, r3, r4, hz, hlb, hkl, cdAVs_map]
        · simp only [merge1, if_neg c1, cdB_app]
          rw [hcB]
          cases w with
          | true=>
            have n1:(need=(ks.length:Int))=False:=by simpa using c1
            simp [l71_1, KL, lendF, h1, g2, g3, hcl, hp, w1, r1, r2, hz, hlb, hkl, hd, n1]
          | false=>
            have n1:k=1→¬ need=1:=by simpa using c1
            by_cases k1:k=1
            · have n2:(need=1)=False:=by simp [n1 k1]
              have k1':(k=1)=True:=by simp [k1]
              simp [l71_1, KL, lendF, h1, g2, g3, hcl, hp, w1, r1, r2, hz, hlb, hkl, hd, n2, k1']
            · simp [l71_1, KL, lendF, h1, g2, g3, hcl, hp, w1, r1, r2, hz, hlb, hkl, hd, k1])
    (fun b hb=>by
      rw [loop_go]
      generalize (mu K).code (.loopAt 2 [0, 10, 11, 69, 70, 71] l71_1)=FF
      simp [l71_1]) [] rfl
  have e:∀ (l b:List Cd), iter (fun (b:List Cd) (c:Cd)=>(.inl (b++merge1 w k c):List Cd ⊕ Unit)) b l=.inl (b++mergeL w k l):=fun l=>by
    induction l with
    | nil=>intro b;simp [iter, mergeL]
    | cons c l ih=>intro b;simp [iter, mergeL, ih]
  rw [e] at key
  simpa [cdB] using key.2
end Go.Ab.Pz
/-
  The normal form: the program's threshold, and its closures.
-/
namespace Go.Ab.Pz
open Go.Ab.Pol
set_option maxRecDepth 100000
set_option maxHeartbeats 4000000
theorem f71 (k:Int) (hk:-1000000≤k∧k≤1000000) (cs:List Cd) (hg:∀ c∈cs,GNe c) (hs:Cd.sizes cs≤1000000) (nl:Bool) (h:Heap) :
  (mu K).fn 71 [iV k,lv nl (cs.map cdAV)] h=some (.val (cdAV (thr k cs)) h):=by
 have hcl:=len_sizes cs
 obtain ⟨env,k0,g0,g5⟩:=l71_0_ok k hk cs (by omega) nl h
 have k144:=fun b h=>f72 b h
 have ht:trues cs≤cs.length:=List.length_filter_le _ _
 rw [fn_go (KX _ _ _) fn71 rfl (by simp [c71])]
 unfold thr
 generalize hm:k - trues cs=m at *
 by_cases c1:m≤0
 ·rw [if_pos c1]
  simp [c71,KL,lendF,k0,g0,g5,c1,k144]
 rw [if_neg c1]
 by_cases c2:((rest cs).length:Int) < m
 ·rw [if_pos c2]
  simp [c71,KL,lendF,k0,g0,g5,c1,c2,k144]
 rw [if_neg c2]
 have hrg:∀ c∈rest cs,GNe c:=fun c hc=>hg c (rest_mem hc).1
 have hrs:Cd.sizes (rest cs)≤1000000:=Nat.le_trans (sizes_rest cs) hs
 match hr:rest cs with
 | []=>rw [hr] at c2;simp at c2;omega
 | [c]=>
  rw [hr] at k0 g5 c2
  have c2':((1:Int) < m)=False:=by simp at c2 ⊢;omega
  simp only [List.length_cons,List.length_nil] at g5
  simp [c71,KL,lendF,k0,g0,g5,c1,c2',cdB]
 | c :: d :: r=>
  simp only
  rw [←hr]
  have hlen:2≤(rest cs).length:=by rw [hr];simp
  have hB:cdB (rest cs)=.arr 97 1 false ((rest cs).map cdAV):=by rw [hr];rfl
  generalize rest cs=R at *
  clear hr
  rw [hB] at k0
  have l1:((R.length:Int)=1)=False:=by simp;omega
  have hml:=merge_le true m R
  have hml2:=merge_le false m R
  by_cases c3:m=(R.length:Int)
  ·rw [if_pos c3]
   obtain ⟨env2,k1,e0,e10,e11⟩:=l71_1_ok m true R hrg hrs h
   obtain ⟨t0,z0,hcB,hz⟩:=cdB_form (mergeL true m R)
   have hz:(z0=0∨t0=97∧z0=1)=True:=by simp [hz]
   rw [hcB] at k1
   have hlb:((mergeL true m R).map cdAV).length=(mergeL true m R).length:=by simp
   rw [cdAV,cdAVs_map]
   rw [←c3] at c2 l1 k1
   generalize R.map cdAV=M at *
   generalize mergeL true m R=Q at *
   have c1':(m≤0)=False:=by simp;omega
   simp [c71,KL,lendF,k0,g0,g5,c1',←c3,l1,k1,e0,e10,e11,hz,hlb]
  ·rw [if_neg c3]
   obtain ⟨env2,k1,e0,e10,e11⟩:=l71_1_ok m false R hrg hrs h
   obtain ⟨t0,z0,hcB,hz⟩:=cdB_form (mergeL false m R)
   have hz:(z0=0∨t0=97∧z0=1)=True:=by simp [hz]
   rw [hcB] at k1
   have hlb:((mergeL false m R).map cdAV).length=(mergeL false m R).length:=by simp
   rw [cdAV,cdAVs_map]
   generalize R.map cdAV=M at *
   generalize mergeL false m R=Q at *
   simp [c71,KL,lendF,k0,g0,g5,c1,c2,c3,l1,k1,e0,e10,e11,hz,hlb]
section
variable (p:Po) (hp:Sz p) (l:Sl Sc) (hl:okL l) (hr:readyE p l.l=0)
include hp hl hr
theorem f67 (neg:Bool) (n:Nd) (b3 b4 b5:Loc) (h:Heap) (h3:hget h b3=some (.box 4 false (.bool neg))) (h4:hget h b4=some (.box 99 false (mkAV p l))) (h5:hget h b5=some (.box 63 false n.av))
  (l3:b3.1 < h.length) (l4:b4.1 < h.length) (l5:b5.1 < h.length) (how:Int) (hh:How how) (i j:Int) (hi:0≤i∧i≤1000) (hj:0≤j∧j≤1000) (x y:Nat) (a b:Nd)
  (ei:n.kids.l[i.toNat]?=some (x:Int)) (ej:n.kids.l[j.toNat]?=some (y:Int)) (ea:p.nodes.l[x]?=some a) (eb:p.nodes.l[y]?=some b) (na:Nm32 a) (nb:Nm32 b) :
  (mu K).fn 67 [iV how,iV i,iV j,.ptr b3 0,.ptr b4 0,.ptr b5 0] h=some (.val (cdAV (values (fdOf p.uses.l l.l) (sg neg how) a b)) h):=by
 have k140:=fun h=>f68 how hh h
 have k141:=fun how' hh' h=>f69 p hp l hl hr how' hh' a b na nb h
 have i1:=fun (k:IntKind)=>iaF_sl (av:=iV) (sz:=1) (s:=n.kids) (k:=k) (j:=i) (x:=(x:Int)) hi.1 ei rfl
 have i2:=fun (k:IntKind)=>iaF_sl (av:=iV) (sz:=1) (s:=n.kids) (k:=k) (j:=j) (x:=(y:Int)) hj.1 ej rfl
 have i3:=fun (k:IntKind)=>iaF_sl (av:=Nd.av) (sz:=6) (s:=p.nodes) (k:=k) (j:=(x:Int)) (x:=a) (by omega) (by simpa using ea) rfl
 have i4:=fun (k:IntKind)=>iaF_sl (av:=Nd.av) (sz:=6) (s:=p.nodes) (k:=k) (j:=(y:Int)) (x:=b) (by omega) (by simpa using eb) rfl
 have q1:=beq_avS _ beq_us p.uses
 have q2:=beq_avS _ beq_rf p.reveal
 have q3:=beq_avS _ beq_nd p.nodes
 have q4:=beq_avS _ beq_sc l
 have qa:=beq_avS _ beq_iV a.kids
 have qb:=beq_avS _ beq_iV b.kids
 have n3:(b3.1=h.length)=False:=by simp;omega
 have n4:(b4.1=h.length)=False:=by simp;omega
 have n5:(b5.1=h.length)=False:=by simp;omega
 simp only [mkAV,Po.cs,List.cons_append,List.nil_append] at k141 h4 ⊢
 rw [fn_go (KX _ _ _) fn67 rfl (by simp [c67])]
 cases neg
 ·have k141:=fun h=>k141 how hh h
  simp [c67,KL,lendF,h3,h4,h5,n3,n4,n5,i1,i2,i3,i4,k141,q1,q2,q3,q4,qa,qb,sg]
 ·have k141:=fun h=>k141 _ (how_compl hh) h
  simp [c67,KL,lendF,h3,h4,h5,n3,n4,n5,i1,i2,i3,i4,k140,k141,q1,q2,q3,q4,qa,qb,sg]
end
theorem f70 (neg:Bool) (b2:Loc) (h:Heap) (h2:hget h b2=some (.box 4 false (.bool neg))) (l2:b2.1 < h.length) (k:Int) (hk:0≤k∧k≤500000) (cs:List Cd) (hg:∀ c∈cs,GNe c) (hs:Cd.sizes cs≤400000) (nl:Bool) :
  (mu K).fn 70 [iV k,lv nl (cs.map cdAV),.ptr b2 0] h=some (.val (cdAV (ofC neg k cs)) h):=by
 have hcl:=len_sizes cs
 have k143:=fun k' hk' h=>f71 k' hk' cs hg (by omega) nl h
 have n2:(b2.1=h.length)=False:=by simp;omega
 have w1:IntKind.i64.wrap ((cs.length:Int) - k)=(cs.length:Int) - k:=wrap64 (by omega) (by omega)
 have w2:IntKind.i64.wrap ((cs.length:Int) - k+1)=(cs.length:Int) - k+1:=wrap64 (by omega) (by omega)
 have hll:(cs.map cdAV).length=cs.length:=by simp
 unfold ofC
 rw [fn_go (KX _ _ _) fn70 rfl (by simp [c70])]
 cases neg
 ·have k143:=fun h=>k143 k (by omega) h
  generalize cs.map cdAV=M at *
  simp [c70,KL,lendF,h2,n2,k143]
 ·have k143:=fun h=>k143 ((cs.length:Int) - k+1) (by omega) h
  generalize cs.map cdAV=M at *
  simp [c70,KL,lendF,h2,n2,k143,w1,w2,hll]
theorem f73 (p:Po) (l:Sl Sc) (n:Nd) (b1 b2:Loc) (h:Heap) (h1:hget h b1=some (.box 99 false (mkAV p l))) (h2:hget h b2=some (.box 63 false n.av)) (l1:b1.1 < h.length) (l2:b2.1 < h.length)
  (i:Int) (hi:0≤i∧i≤1000) (x:Nat) (a:Nd) (ei:n.kids.l[i.toNat]?=some (x:Int)) (ea:p.nodes.l[x]?=some a) :
  (mu K).fn 73 [iV i,.ptr b1 0,.ptr b2 0] h=some (.val (iV a.k) h):=by
 have i1:=fun (k:IntKind)=>iaF_sl (av:=iV) (sz:=1) (s:=n.kids) (k:=k) (j:=i) (x:=(x:Int)) hi.1 ei rfl
 have i3:=fun (k:IntKind)=>iaF_sl (av:=Nd.av) (sz:=6) (s:=p.nodes) (k:=k) (j:=(x:Int)) (x:=a) (by omega) (by simpa using ea) rfl
 have n1:(b1.1=h.length)=False:=by simp;omega
 have n2:(b2.1=h.length)=False:=by simp;omega
 simp only [mkAV,Po.cs,List.cons_append,List.nil_append] at h1
 rw [fn_go (KX _ _ _) fn73 rfl (by simp [c73])]
 simp [c73,KL,lendF,h1,h2,n1,n2,i1,i3]
end Go.Ab.Pz
