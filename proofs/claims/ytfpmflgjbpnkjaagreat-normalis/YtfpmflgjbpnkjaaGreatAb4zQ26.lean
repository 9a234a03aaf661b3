/-
  The reference's normal form: thresholds.
-/
import Derived.Test.YtfpmflgjbpnkjaaGreatAb4zQ23
import Derived.Test.YtfpmflgjbpnkjaaGreatAb4zP96
set_option linter.unusedVariables false
set_option linter.unusedSimpArgs false
set_option linter.unusedSectionVars false
namespace Go.Ab.Pz
open Go.Ab.Pol
set_option maxRecDepth 100000
set_option maxHeartbeats 4000000
theorem p86_body:c86.body=.code (.seq p86_0 (.seq p86_1 (.seq p86_2 (.seq p86_3 (.seq p86_4 (.seq p86_5 (.seq p86_6 (.seq p86_7 (.seq p86_8 (.seq p86_9 (.seq p86_10 p86_11))))))))))):=rfl
abbrev zr7:AV:=.agg [iV 0,iV 0,.str [],.str [],.nils,iV 0,.nils]
def rcB:List Cd→Blk
 | []=>.arr 0 0 false []
 | c :: r=>.arr 109 7 false ((c :: r).map rcAV)
theorem rcB_form (d:List Cd):∃ t z,rcB d=.arr t z false (d.map rcAV)∧(z=0∨t=109∧z=7):=by
 cases d with
 | nil=>exact ⟨0,0,rfl,.inl rfl⟩
 | cons s r=>exact ⟨109,7,rfl,.inr ⟨rfl,rfl⟩⟩
theorem rcB_app (d:List Cd) (c:Cd):rcB (d++[c])=.arr 109 7 false ((d++[c]).map rcAV):=by
 cases d<;>rfl
theorem rcB_apps (d e:List Cd) (he:e≠[]):rcB (d++e)=.arr 109 7 false ((d++e).map rcAV):=by
 cases d with
 | nil=>cases e with
  | nil=>exact absurd rfl he
  | cons c r=>rfl
 | cons x r=>rfl
theorem rcAV_gate (need:Int) (ks:List Cd):rcAV (.gate need ks)=.agg [iV 5,iV need,.str [],.str [],.nils,iV 0,.lst (ks.map rcAV)]:=by simp [rK,rN,rS,rcs_map]
theorem isT_rK (c:Cd):(c.isT=true)=(rK c=0):=by cases c<;>simp [Cd.isT,rK]
theorem isF_rK (c:Cd):(c.isF=true)=(rK c=1):=by cases c<;>simp [Cd.isF,rK]
theorem l86_0_ok (k:Int) (hk:-1000000≤k∧k≤1000000) (cs:List Cd) (hc:cs.length≤1000000) (nl:Bool) (h:Heap) :
  ∃ env,(mu K).code (.loopAt 2 [0,1,4,5,6] l86_0) ⟨[(0,iV k),(1,lv nl (cs.map rcAV)),(4,.ptr (h.length,0) 0),(5,.own (h.length,1) 0),(6,iV 0)],[.box 109 false zr7,.arr 0 0 false []] :: h⟩ =
   some (.exit 0,⟨env,[.box 109 false zr7,rcB (rest cs)] :: h⟩)∧get env 0=iV (k - trues cs)∧get env 4=.ptr (h.length,0) 0∧get env 5=.own (h.length,1) (rest cs).length:=by
 have key:=loop_iter (K:=K) (n:=2) (live:=[0,1,4,5,6]) (a:=l86_0) thrStep
  (fun pre b=>⟨[(0,iV b.1),(1,lv nl (cs.map rcAV)),(4,.ptr (h.length,0) 0),(5,.own (h.length,1) b.2.length),(6,iV (pre.length:Int))],[.box 109 false zr7,rcB b.2] :: h⟩)
  (fun pre b=>k - pre.length≤b.1∧b.1≤k∧b.2.length≤pre.length)
  (fun b o=>∃ env,o=some (.exit 0,⟨env,[.box 109 false zr7,rcB b.2] :: h⟩)∧get env 0=iV b.1∧get env 4=.ptr (h.length,0) 0∧get env 5=.own (h.length,1) b.2.length)
  (fun _ _=>False) cs
  (fun pre c r b hl' hb=>by
   obtain ⟨hb1,hb2,hb3⟩:=hb
   obtain ⟨h1,h2,w1⟩:=idx_facts hl' (by omega)
   have hp:pre.length < cs.length:=(List.getElem?_eq_some_iff.1 h2).1
   have hix:=fun (kk:IntKind)=>iaF_lv (sz:=7) (nl:=nl) (l:=cs.map rcAV) (k:=kk) (j:=(pre.length:Int)) (v:=rcAV c) (by omega) (by simp [h2]) (by simp [AV.cells])
   have hcl:(cs.map rcAV).length=cs.length:=by simp
   have w2:IntKind.i64.wrap (b.1 - 1)=b.1 - 1:=wrap64 (by omega) (by omega)
   have r1:(b.2.length+1) * 104≤room:=by unfold room;omega
   have r2:b.2.length+1≤room:=by unfold room;omega
   obtain ⟨t0,z0,hcB,hz⟩:=rcB_form b.2
   have hz:(z0=0∨t0=109∧z0=7)=True:=by simp [hz]
   have hlb:(b.2.map rcAV).length=b.2.length:=by simp
   have qc:=beq_rS c
   refine ⟨fun b' e=>?_,fun _ e=>by simp only [thrStep] at e;split at e<;>(try split at e)<;>cases e⟩
   rw [loop_go]
   generalize (mu K).code (.loopAt 2 [0,1,4,5,6] l86_0)=FF
   generalize cs.map rcAV=M at *
   clear hl'
   simp only [thrStep,isT_rK,isF_rK] at e
   by_cases c0:rK c=0
   ·rw [if_pos c0] at e
    injection e with e
    subst e
    refine ⟨⟨by simp;omega,by simp only;omega,by simp;omega⟩,?_⟩
    rw [hcB]
    simp [l86_0,KL,lendF,h1,hcl,hix,w1,w2,c0]
   by_cases c1:rK c=1
   ·rw [if_neg c0,if_pos c1] at e
    injection e with e
    subst e
    refine ⟨⟨by simp;omega,hb2,by simp;omega⟩,?_⟩
    rw [hcB]
    simp [l86_0,KL,lendF,h1,hcl,hix,w1,c1]
   ·rw [if_neg c0,if_neg c1] at e
    injection e with e
    subst e
    refine ⟨⟨by simp;omega,hb2,by simp;omega⟩,?_⟩
    simp only [rcB_app]
    rw [hcB]
    simp [l86_0,KL,lendF,h1,hcl,hix,w1,c0,c1,r1,r2,hz,hlb,qc])
  (fun b hb=>by
   have hcl:(cs.map rcAV).length=cs.length:=by simp
   rw [loop_go]
   generalize (mu K).code (.loopAt 2 [0,1,4,5,6] l86_0)=FF
   generalize cs.map rcAV=M at *
   simp [l86_0,hcl]) (k,[]) ⟨by simp,by simp,by simp⟩
 rw [iter_thr] at key
 exact key.2
def GNr (c:Cd):Prop:=(∀ need ks,c=.gate need ks→ks≠[])∧∀ k n vs,c=.atom k n vs→k≠5
theorem l86_1_ok (k:Int) (w:Bool) (cs:List Cd) (hg:∀ c∈cs,GNr c) (hs:Cd.sizes cs≤1000000) (h:Heap) :
  ∃ env,(mu K).code (.loopAt 3 [0,4,5,7,8,9] l86_1) ⟨[(0,iV k),(4,.ptr (h.length,0) 0),(5,.own (h.length,1) cs.length),(7,.bool w),(8,.own (h.length,2) 0),(9,iV 0)],[.box 109 false zr7,.arr 109 7 false (cs.map rcAV),.arr 0 0 false []] :: h⟩ =
   some (.exit 3,⟨env,[.box 109 false zr7,.arr 109 7 false (cs.map rcAV),rcB (mergeL w k cs)] :: h⟩)∧get env 0=iV k∧get env 4=.ptr (h.length,0) 0∧get env 7=.bool w∧get env 8=.own (h.length,2) (mergeL w k cs).length:=by
 have hcs:=len_sizes cs
 have key:=loop_iter (K:=K) (n:=3) (live:=[0,4,5,7,8,9]) (a:=l86_1) (ρ:=Unit) (fun (b:List Cd) (c:Cd)=>.inl (b++merge1 w k c))
  (fun pre b=>⟨[(0,iV k),(4,.ptr (h.length,0) 0),(5,.own (h.length,1) cs.length),(7,.bool w),(8,.own (h.length,2) b.length),(9,iV (pre.length:Int))],[.box 109 false zr7,.arr 109 7 false (cs.map rcAV),rcB b] :: h⟩)
  (fun pre b=>b=mergeL w k pre)
  (fun b o=>∃ env,o=some (.exit 3,⟨env,[.box 109 false zr7,.arr 109 7 false (cs.map rcAV),rcB b] :: h⟩)∧get env 0=iV k∧get env 4=.ptr (h.length,0) 0∧get env 7=.bool w∧get env 8=.own (h.length,2) b.length)
  (fun _ _=>False) cs
  (fun pre c r b hl' hb=>by
   obtain ⟨h1,h2,w1⟩:=idx_facts hl' (by omega)
   have hp:pre.length < cs.length:=(List.getElem?_eq_some_iff.1 h2).1
   have hgc:=hg c (List.mem_of_getElem? h2)
   have hls:Cd.sizes cs=Cd.sizes pre+(c.size+Cd.sizes r):=by rw [hl',sizes_app];rfl
   have hbl:b.length≤Cd.sizes pre:=by rw [hb];exact merge_le w k pre
   have g2:(cs.map rcAV)[pre.length]?=some (rcAV c):=by simp [h2]
   have g3:=get_cd g2
   have hcl:(cs.map rcAV).length=cs.length:=by simp
   have h1c:1≤c.size:=by cases c<;>simp [Cd.size]
   have r1:(b.length+1) * 104≤room:=by unfold room;omega
   have r2:b.length+1≤room:=by unfold room at *;omega
   obtain ⟨t0,z0,hcB,hz⟩:=rcB_form b
   have hz:(z0=0∨t0=109∧z0=7)=True:=by simp [hz]
   have hlb:(b.map rcAV).length=b.length:=by simp
   have qc:=beq_rS c
   have k136:=fun h=>f136 c h
   have k137:=fun h=>f137 c h
   refine ⟨fun b' e=>?_,fun _ e=>by cases e⟩
   injection e with e
   subst e
   refine ⟨by rw [mergeL_snoc,←hb],?_⟩
   rw [loop_go]
   generalize (mu K).code (.loopAt 3 [0,4,5,7,8,9] l86_1)=FF
   generalize cs.map rcAV=M at *
   clear hl' hb
   have k1c:(k=1)=True∨(k=1)=False:=by by_cases e:k=1<;>simp [e]
   cases c with
   | atom ck cn vs=>
    have h5:(rK (.atom ck cn vs)=5)=False:=eq_false (by simpa [rK] using hgc.2 ck cn vs rfl)
    have e1:merge1 w k (.atom ck cn vs)=[.atom ck cn vs]:=rfl
    rw [e1]
    simp only [rcB_app]
    rw [hcB]
    generalize Cd.atom ck cn vs=c at *
    rcases k1c with k1c | k1c<;>cases w<;>simp [l86_1,KL,lendF,h1,g2,g3,hcl,hp,w1,r1,r2,hz,hlb,k136,k137,h5,k1c,qc]
   | gate need ks=>
    have hkl:(ks.map rcAV).length=ks.length:=by simp
    have hks:ks.length≤Cd.sizes ks:=len_sizes ks
    have hsz:(Cd.gate need ks).size=Cd.sizes ks+1:=rfl
    have r3:(b.length+ks.length) * 104≤room:=by unfold room;omega
    have r4:b.length+ks.length≤room:=by unfold room;omega
    have hd:rcAV (.gate need ks)=.agg [iV 5,iV need,.str [],.str [],.nils,iV 0,.lst (ks.map rcAV)]:=rcAV_gate need ks
    have e5:rK (.gate need ks)=5:=rfl
    have eN:rN (.gate need ks)=need:=rfl
    have eL:rL (.gate need ks)=ks.length:=rfl
    have qk:AV.beqs (ks.map rcAV) (ks.map rcAV)=true:=by rw [←rcs_map];exact beq_rcs ks
    simp only [hd,e5,eN,eL] at g2 g3 k136 k137
    by_cases c1:((w && decide (need=(ks.length:Int))) || (!w && decide (k=1) && decide (need=1)))=true
    ·simp only [merge1,if_pos c1]
     have ke:ks≠[]:=hgc.1 need ks rfl
     rw [rcB_apps b ks ke,hcB]
     cases w with
     | true=>
      have n1:need=(ks.length:Int):=by simpa using c1
      subst n1
      simp [l86_1,KL,lendF,h1,g2,g3,hcl,hp,w1,r3,r4,hz,hlb,hkl,k136,qk]
     | false=>
      have n1:k=1∧need=1:=by simpa using c1
      obtain ⟨rfl,rfl⟩:=n1
      simp [l86_1,KL,lendF,h1,g2,g3,hcl,hp,w1,r3,r4,hz,hlb,hkl,k137,qk]
    ·simp only [merge1,if_neg c1,rcB_app]
     rw [hcB]
     cases w with
     | true=>
      have n1:(need=(ks.length:Int))=False:=by simpa using c1
      simp [l86_1,KL,lendF,h1,g2,g3,hcl,hp,w1,r1,r2,hz,hlb,hkl,k136,qk,hd,n1]
     | false=>
      have n1:k=1→¬ need=1:=by simpa using c1
      by_cases k1:k=1
      ·have n2:(need=1)=False:=by simp [n1 k1]
       have k1':(k=1)=True:=by simp [k1]
       simp [l86_1,KL,lendF,h1,g2,g3,hcl,hp,w1,r1,r2,hz,hlb,hkl,k137,qk,hd,n2,k1']
      ·simp [l86_1,KL,lendF,h1,g2,g3,hcl,hp,w1,r1,r2,hz,hlb,hkl,qk,hd,k1])
  (fun b hb=>by
   rw [loop_go]
   generalize (mu K).code (.loopAt 3 [0,4,5,7,8,9] l86_1)=FF
   simp [l86_1]) [] rfl
 have e:∀ (l b:List Cd),iter (fun (b:List Cd) (c:Cd)=>(.inl (b++merge1 w k c):List Cd ⊕ Unit)) b l=.inl (b++mergeL w k l):=fun l=>by
  induction l with
  | nil=>intro b;simp [iter,mergeL]
  | cons c l ih=>intro b;simp [iter,mergeL,ih]
 rw [e] at key
 simpa [rcB] using key.2
theorem f86 (k:Int) (hk:-1000000≤k∧k≤1000000) (cs:List Cd) (hg:∀ c∈cs,GNr c) (hs:Cd.sizes cs≤1000000) (nl:Bool) (h:Heap) :
  (mu K).fn 86 [iV k,lv nl (cs.map rcAV)] h=some (.val (rcAV (thr k cs)) h):=by
 have hcl:=len_sizes cs
 obtain ⟨env,k0,g0,g4,g5⟩:=l86_0_ok k hk cs (by omega) nl h
 have k81:=fun b h=>f81 b h
 have ht:trues cs≤cs.length:=List.length_filter_le _ _
 rw [fn_go (KX _ _ _) fn86 p86_body (by simp [c86])]
 unfold thr
 generalize hm:k - trues cs=m at *
 generalize cs.map rcAV=M0 at *
 by_cases c1:m≤0
 ·rw [if_pos c1]
  simp [p86_0,p86_1,p86_2,p86_3,c86,KL,lendF,k0,g0,g4,g5,c1,k81,beq_rS]
 rw [if_neg c1]
 by_cases c2:((rest cs).length:Int) < m
 ·rw [if_pos c2]
  simp [p86_0,p86_1,p86_2,p86_3,p86_4,c86,KL,lendF,k0,g0,g4,g5,c1,c2,k81,beq_rS]
 rw [if_neg c2]
 have hrg:∀ c∈rest cs,GNr c:=fun c hc=>hg c (rest_mem hc).1
 have hrs:Cd.sizes (rest cs)≤1000000:=Nat.le_trans (sizes_rest cs) hs
 match hr:rest cs with
 | []=>rw [hr] at c2;simp at c2;omega
 | [c]=>
  rw [hr] at k0 g5 c2
  have c2':((1:Int) < m)=False:=by simp at c2 ⊢;omega
  have qc:=beq_rS c
  simp only [List.length_cons,List.length_nil] at g5
  simp [p86_0,p86_1,p86_2,p86_3,p86_4,p86_5,c86,KL,lendF,k0,g0,g4,g5,c1,c2',rcB,qc]
 | c :: d :: r=>
  simp only
  rw [←hr]
  have hlen:2≤(rest cs).length:=by rw [hr];simp
  have hB:rcB (rest cs)=.arr 109 7 false ((rest cs).map rcAV):=by rw [hr];rfl
  generalize rest cs=R at *
  clear hr
  rw [hB] at k0
  have l1:((R.length:Int)=1)=False:=by simp;omega
  have hml:=merge_le true m R
  have hml2:=merge_le false m R
  by_cases c3:m=(R.length:Int)
  ·rw [if_pos c3]
   obtain ⟨env2,k1,e0,e4,e7,e8⟩:=l86_1_ok m true R hrg hrs h
   obtain ⟨t0,z0,hcB,hz⟩:=rcB_form (mergeL true m R)
   have hz:(z0=0∨t0=109∧z0=7)=True:=by simp [hz]
   rw [hcB] at k1
   have hlb:((mergeL true m R).map rcAV).length=(mergeL true m R).length:=by simp
   rw [rcAV_gate]
   rw [←c3] at c2 l1
   generalize R.map rcAV=M at *
   generalize mergeL true m R=Q at *
   have c1':(m≤0)=False:=by simp;omega
   simp [p86_0,p86_1,p86_2,p86_3,p86_4,p86_5,p86_6,p86_7,p86_8,p86_9,p86_10,p86_11,c86,KL,lendF,k0,g0,g4,g5,c1',←c3,l1,k1,e0,e4,e7,e8,hz,hlb]
  ·rw [if_neg c3]
   obtain ⟨env2,k1,e0,e4,e7,e8⟩:=l86_1_ok m false R hrg hrs h
   obtain ⟨t0,z0,hcB,hz⟩:=rcB_form (mergeL false m R)
   have hz:(z0=0∨t0=109∧z0=7)=True:=by simp [hz]
   rw [hcB] at k1
   have hlb:((mergeL false m R).map rcAV).length=(mergeL false m R).length:=by simp
   rw [rcAV_gate]
   generalize R.map rcAV=M at *
   generalize mergeL false m R=Q at *
   simp [p86_0,p86_1,p86_2,p86_3,p86_4,p86_5,p86_6,p86_7,p86_8,p86_9,p86_10,p86_11,c86,KL,lendF,k0,g0,g4,g5,c1,c2,c3,l1,k1,e0,e4,e7,e8,hz,hlb]
end Go.Ab.Pz
