/-
  The statement NormalParts on the evaluator.
-/
import Derived.Test.YtfpmflgjbpnkjaaAb41P106
import Derived.Test.YtfpmflgjbpnkjaaAb41P107
set_option linter.unusedVariables false
set_option linter.unusedSimpArgs false
set_option linter.unusedSectionVars false
namespace Go.Ab.Pl
open Go.Ab.Pol
set_option maxRecDepth 100000
set_option maxHeartbeats 4000000
theorem refs_len {p:Po} {t:Tr} (h:Pol.IsT p.nodes.l t) (hn:t.subs.length≤1000):(refsP p t).length≤1000000:=by
 rw [refsP_T h]
 unfold refsT
 have:∀ (l:List Tr) (acc:List Rf),(l.foldl (fun acc s=>addR acc s.n) acc).length≤acc.length+l.length:=fun l=>by
  induction l with
  | nil=>intro acc;simp
  | cons x l ih=>
   intro acc
   have h1:=ih (addR acc x.n)
   have h2:(addR acc x.n).length≤acc.length+1:=by
    unfold addR
    split
    ·split<;>simp
    ·simp
   simp only [List.foldl_cons,List.length_cons]
   omega
 have:=this t.subs []
 simp only [List.length_nil] at this
 omega
theorem law20 (p:Po) (hp:aPo p) (l:Sl Sc) (hl:okSl aSc l):(mu K2).fn 20 [p.av,l.avS Sc.av] []=some (.val (.bool true) []):=by
 have k59:=fun h=>up (f59 p l h)
 have q1:=beq_avS _ beq_us p.uses
 have q2:=beq_avS _ beq_rf p.reveal
 have q3:=beq_avS _ beq_nd p.nodes
 have q4:=beq_avS _ beq_sc l
 have aw:=fun f=>up (awake46 f)
 rw [fn_go (KX2 _ _ _) (fn2 fn20) rfl (by simp [c20])]
 cases hf:few46 p l.l
 ·rw [hf] at k59
  simp [c20,KL2,lendF,k59,aw,q1,q2,q3]
 rw [hf] at k59
 obtain ⟨z,zl,h60⟩:=few46_sz hp hl hf
 obtain ⟨t,ht⟩:=tree_of46 p
 have k61:=fun h=>up (f61 p z l zl t ht (size_le ht (by omega)) h)
 by_cases h0:(normR p l.l t).2=0
 case neg=>
  rw [normR_no h0] at k61
  have ez:zPo.av=.agg [.str [],.nils,.nils,.nils,iV 0,.str [],iV 0,.str []]:=rfl
  simp only [ez] at k61
  simp [c20,KL2,lendF,k59,k61,h0,aw,q1,q2,q3]
 obtain ⟨g,hF,h1,h2,h3⟩:=normR_ok ht h0
 obtain ⟨g2,ty,hs⟩:=normR_self ht h0
 have hsz:(normC p l.l t).size≤1000:=size_le ht (by omega) h1
 have zq:=sz_normS z g hsz
 rw [h3,h0] at k61
 have hn:NFp p.uses.l l.l (inRefs p t) (normC p l.l t):=nfp_norm g h1 (in_refs g.isT) false
 have kp:=fun h=>f27 p z t g h
 have kq:=fun h=>f27 (normP p l.l t) zq (treeC 0 (normC p l.l t)) g2 h
 have hsub:∀ r∈refsP (normP p l.l t) (treeC 0 (normC p l.l t)),r∈refsP p t:=refs_sub g2.isT hn
 have lp:t.subs.length≤1000:=by
  have e:t.subs.length=t.pre.length:=by rw [pre_subs];simp
  rw [e,g.all];omega
 have lq:(treeC 0 (normC p l.l t)).subs.length≤1000:=by
  have e:(treeC 0 (normC p l.l t)).subs.length=(treeC 0 (normC p l.l t)).pre.length:=by rw [pre_subs];simp
  rw [e,treeC_range];simpa using hsz
 have rp:=refs_len g.isT lp
 have rq:=refs_len g2.isT lq
 have hN:∀ (i:Nat) (n:Nd),(normP p l.l t).nodes.l[i]?=some n→n.kids.l.length≤1000∧n.k≠2∧n.k≠3∧n.k≠4∧n.k≠8∧((n.k=0∨n.k=1)→i=0)∧(n.k=5→2≤n.kids.l.length∧KidOk (normP p l.l t).nodes.l n):=fun i n hi=>by
  obtain ⟨a1,a2,a3,a4,a5,a6⟩:=node_shape g2 hn hi
  refine ⟨(zq.nodes.2 n (List.mem_of_getElem? hi)).2,a1,a2,a3,a4,a5,fun k5=>?_⟩
  obtain ⟨b1,b2⟩:=a6 k5
  exact ⟨b1,fun v hv=>by
   obtain ⟨x,c1,c2,c3,c4⟩:=b2 v hv
   exact ⟨x,c1,c2,c3,c4⟩⟩
 obtain ⟨env,kl,g22,g25⟩:=l20_1_ok p (normP p l.l t) [] zq.nodes.1 hN
 simp only [List.length_nil] at kl g22 g25
 have ks:=fun F x y=>l20_3_ok [] (refsP p t) (refsP (normP p l.l t) (treeC 0 (normC p l.l t))) rp rq hsub F x y
 have eqq:=fun h=>up (f33 p z h)
 have eu:(normP p l.l t).av=.agg [.str p.name,p.uses.avS Us.av,p.reveal.avS Rf.av,(normP p l.l t).nodes.avS Nd.av,iV 0,.str p.scope,iV p.limit,.str p.escrow]:=rfl
 have b3:=beq_avS _ beq_nd (normP p l.l t).nodes
 generalize hL:refsP p t=L at *
 generalize hM:refsP (normP p l.l t) (treeC 0 (normC p l.l t))=M at *
 obtain ⟨env3,k3,g32,g35⟩:=ks [.box 26 false p.av,.box 26 false (normP p l.l t).av] (.ptr (0,0) 0) (.ptr (0,1) 0)
 rw [eu] at k61 kq kl k3
 generalize (normP p l.l t).nodes=QN at *
 simp only [List.length_cons,List.length_nil,Nat.zero_add] at k3
 simp [c20,KL2,lendF,k59,k61,kl,g22,g25,kp,kq,k3,g32,g35,eqq,aw,q1,q2,q3,q4,b3]
end Go.Ab.Pl
