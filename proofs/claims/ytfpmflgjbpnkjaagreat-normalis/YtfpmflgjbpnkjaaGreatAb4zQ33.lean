/-
  The normal form of a policy: the reference's functions Of and Is.
-/
import Derived.Test.YtfpmflgjbpnkjaaGreatAb4zQ28
import Derived.Test.YtfpmflgjbpnkjaaGreatAb4zQ31
import Derived.Test.YtfpmflgjbpnkjaaGreatAb4zP105
import Derived.Test.YtfpmflgjbpnkjaaGreatAb4zP23
import Derived.Test.YtfpmflgjbpnkjaaGreatAb4zP34
import Derived.Test.YtfpmflgjbpnkjaaGreatAb4zP29
import Derived.Test.YtfpmflgjbpnkjaaGreatAb4zP11
import Derived.Test.YtfpmflgjbpnkjaaGreatAbRefs
import Derived.Test.YtfpmflgjbpnkjaaGreatAb4zT8
import Derived.Test.YtfpmflgjbpnkjaaGreatAb4zA
set_option linter.unusedVariables false
set_option linter.unusedSimpArgs false
set_option linter.unusedSectionVars false
namespace Go.Ab.Pz
open Go.Ab.Pol
set_option maxRecDepth 100000
set_option maxHeartbeats 4000000
theorem f27 (p:Po) (z:Sz p) (l:Sl Sc) (zl:okL l) (t:Tr) (ht:chk p=0→Pol.Good p t) (hn:(typT p l.l t).2=0→(normC p l.l t).size≤1000) (h:Heap) :
  (mu K).fn 27 [p.av,l.avS Sc.av] h=some (.val (.tup [(normR p l.l t).1.av,.int .i64 (normR p l.l t).2]) h):=by
 have k38:=fun h=>f42 p z l zl t ht h
 have q1:=beq_avS _ beq_us p.uses
 have q2:=beq_avS _ beq_rf p.reveal
 have q3:=beq_avS _ beq_nd p.nodes
 have q4:=beq_avS _ beq_sc l
 have ez:zPo.av=.agg [.str [],.nils,.nils,.nils,iV 0,.str [],iV 0,.str []]:=rfl
 by_cases h0:(typT p l.l t).2=0
 case neg=>
  have e:normR p l.l t=(zPo,(typT p l.l t).2):=by unfold normR;rw [if_pos h0]
  rw [e]
  simp only [ez]
  rw [fn_go (KX _ _ _) fn27 rfl (by simp [c27])]
  simp [c27,KL,lendF,k38,h0,q1,q2,q3,q4]
 obtain ⟨hF,_⟩:=fit_of h0
 have hr:=ready_of hF.ready
 have g:=ht hr.chk
 have nok:NOk p l.l t:=⟨g.isT,tw_of t g.isT g.wf (typ_parts h0).2.2,g.wf,by
  have h2:t.subs.length=t.pre.length:=by rw [pre_subs];simp
  rw [h2,g.all];have:=g.sizes.1;omega⟩
 have k52:=f52 p z l zl hF.ready (good_nm g) (h.length,2) t false nok ([.box 26 false p.av,.box 26 false zPo.av,.box 105 false (mkAV p l),.box 26 false p.av] :: h) (by simp) (by simp)
 rw [g.root] at k52
 have hnf:NFp p.uses.l l.l (fun _=>True) (normC p l.l t):=nfp_norm g h0 (fun _ _ _=>trivial) false
 have hle:=hn h0
 have kw:=fun h=>put_top (normC p l.l t) (nfp_wok hnf) (by omega) h
 have zq:=sz_normS z g (hn h0)
 have k24:=fun h=>f53 (normP p l.l t) zq h
 have eq:(normP p l.l t).av=.agg [.str p.name,p.uses.avS Us.av,p.reveal.avS Rf.av,.lst ((flat 0 (normC p l.l t)).map Nd.av),iV 0,.str p.scope,iV p.limit,.str p.escrow]:=by
  simp [normP,nodP,Sl.avS]
 have e3:normR p l.l t=if chk (normP p l.l t)≠0 then (zPo,chk (normP p l.l t)) else (normP p l.l t,0):=by unfold normR;rw [if_neg (by simp [h0])]
 rw [e3]
 rw [eq] at k24
 have hC:norm (fdOf p.uses.l l.l) false t=normC p l.l t:=rfl
 rw [hC] at k52
 have qc:=beq_rS (normC p l.l t)
 simp only [ez,mkAV,Po.cs,List.cons_append,List.nil_append] at k52
 by_cases hc:chk (normP p l.l t)=0
 ·rw [if_neg (by simp [hc])]
  rw [hc] at k24
  simp only [eq]
  generalize (flat 0 (normC p l.l t)).map Nd.av=M at *
  rw [fn_go (KX _ _ _) fn27 rfl (by simp [c27])]
  generalize normC p l.l t=C at *
  simp [c27,KL,lendF,k38,h0,q1,q2,q3,q4,k52,kw,k24,qc]
 ·rw [if_pos hc]
  simp only [ez]
  generalize (flat 0 (normC p l.l t)).map Nd.av=M at *
  rw [fn_go (KX _ _ _) fn27 rfl (by simp [c27])]
  generalize chk (normP p l.l t)=e at *
  generalize normC p l.l t=C at *
  simp [c27,KL,lendF,k38,h0,q1,q2,q3,q4,k52,kw,k24,hc,qc]
theorem f30 (p:Po) (z:Sz p) (l:Sl Sc) (zl:okL l) (t:Tr) (ht:chk p=0→Pol.Good p t) (hn:(typT p l.l t).2=0→(normC p l.l t).size≤1000) (h:Heap) :
  (mu K).fn 30 [p.av,l.avS Sc.av] h=some (.val (.bool (isR p l.l t)) h):=by
 have k61:=fun h=>f27 p z l zl t ht hn h
 have q1:=beq_avS _ beq_us p.uses
 have q2:=beq_avS _ beq_rf p.reveal
 have q3:=beq_avS _ beq_nd p.nodes
 unfold isR
 by_cases h0:(normR p l.l t).2=0
 ·obtain ⟨g,hF,h1,h2,h3⟩:=normR_ok ht h0
  have zq:=sz_normS z g (hn (by first | exact h0 | exact h1))
  have k34:=fun h=>f55 p (normP p l.l t) z zq t _ g (nod_good h2) h
  rw [h3,h0] at k61
  rw [if_pos h0]
  have hC:nodP p (normC p l.l t)=normP p l.l t:=rfl
  generalize sameP p (normP p l.l t) t (treeC 0 (normC p l.l t))=B at *
  have b1:=beq_avS _ beq_us (normP p l.l t).uses
  have b2:=beq_avS _ beq_rf (normP p l.l t).reveal
  have b3:=beq_avS _ beq_nd (normP p l.l t).nodes
  generalize normP p l.l t=q at *
  rw [fn_go (KX _ _ _) fn30 rfl (by simp [c30])]
  simp [c30,KL,lendF,k61,k34,q1,q2,q3,b1,b2,b3]
 ·rw [if_neg h0]
  rw [normR_no h0] at k61
  have ez:zPo.av=.agg [.str [],.nils,.nils,.nils,iV 0,.str [],iV 0,.str []]:=rfl
  simp only [ez] at k61
  rw [fn_go (KX _ _ _) fn30 rfl (by simp [c30])]
  simp [c30,KL,lendF,k61,h0,q1,q2,q3]
end Go.Ab.Pz
/-
  The normal form: the program's agrees with the reference's.
-/
namespace Go.Ab.Pz
open Go.Ab.Pol
set_option maxRecDepth 100000
set_option maxHeartbeats 4000000
theorem few46_sz2 {p:Po} (hp:aPo p) {l:Sl Sc} (hl:okSl aSc l) (h:few46 p l.l=true):Sz p∧okL l∧p.nodes.l.length≤60:=by
 unfold few46 at h
 simp only [Bool.and_eq_true,decide_eq_true_eq] at h
 obtain ⟨⟨h1,h2⟩,h3⟩:=h
 rw [List.take_of_length_le (by omega)] at h1
 refine ⟨few_sz41 hp h2,⟨by omega,fun s hs=>?_⟩,?_⟩
 ·have a:=hl.2 s hs
  have b:=List.all_eq_true.1 h1 s hs
  unfold s8 at b
  simp only [Bool.and_eq_true,decide_eq_true_eq] at b
  refine ⟨a.name,by omega,fun f hf=>?_⟩
  have c:=a.fields.2 f hf
  have d:=List.all_eq_true.1 b.2 f hf
  unfold f12 at d
  simp only [decide_eq_true_eq] at d
  exact ⟨c.name,by omega,c.words.2⟩
 ·unfold few41 at h2
  simp only [Bool.and_eq_true,decide_eq_true_eq] at h2
  exact h2.1.1.1.1.1.2
theorem tree_of47 (p:Po):∃ t,chk p=0→Pol.Good p t:=by
 by_cases h:chk p=0
 ·obtain ⟨t,g⟩:=chk_good h
  exact ⟨t,fun _=>g⟩
 ·exact ⟨.nd 0 (numN 0) [],fun e=>absurd e h⟩
theorem sz_zPo:Sz zPo:=by
 refine ⟨by simp [zPo],by simp [zPo],by simp [zPo],by simp [zPo],by simp [zPo],?_⟩
 simp [okP,zPo]
theorem chk_zPo:chk zPo≠0:=by decide
theorem law7 (p:Po) (hp:aPo p) (l:Sl Sc) (hl:okSl aSc l):(mu K).fn 7 [p.av,l.avS Sc.av] []=some (.val (.bool true) []):=by
 have k24:=fun h=>f24 p l h
 have q1:=beq_avS _ beq_us p.uses
 have q2:=beq_avS _ beq_rf p.reveal
 have q3:=beq_avS _ beq_nd p.nodes
 have q4:=beq_avS _ beq_sc l
 have aw:=fun f=>awake46 f
 rw [fn_go (KX _ _ _) fn7 rfl (by simp [c7])]
 cases hf:few46 p l.l
 ·rw [hf] at k24
  simp [c7,KL,lendF,k24,aw,q1,q2,q3]
 rw [hf] at k24
 obtain ⟨z,zl,h60⟩:=few46_sz2 hp hl hf
 obtain ⟨t,ht⟩:=tree_of47 p
 have k27:=fun h=>f27 p z l zl t ht (size_le ht (by omega)) h
 have k29:=fun h=>f29 p z l zl t ht (size_le ht (by omega)) h
 have k30:=fun h=>f30 p z l zl t ht (size_le ht (by omega)) h
 obtain ⟨B,m29,m30⟩:∃ B:Bool,(∀ h,(mu K).fn 29 [(normR p l.l t).1.av,l.avS Sc.av] h=some (.val (.bool B) h))∧(∀ h,(mu K).fn 30 [(normR p l.l t).1.av,l.avS Sc.av] h=some (.val (.bool B) h)):=by
  by_cases h0:(normR p l.l t).2=0
  ·obtain ⟨g,hF,h1,h2,h3⟩:=normR_ok ht h0
   obtain ⟨g2,ty,hs⟩:=normR_self ht h0
   have hsz:(normC p l.l t).size≤1000:=size_le ht (by omega) h1
   have zq:=sz_normS z g hsz
   have hs2:(typT (normP p l.l t) l.l (treeC 0 (normC p l.l t))).2=0→(normC (normP p l.l t) l.l (treeC 0 (normC p l.l t))).size≤1000:=fun _=>by
    have hn:NFp p.uses.l l.l (inRefs p t) (normC p l.l t):=nfp_norm g h1 (in_refs g.isT) false
    have e1:normC (normP p l.l t) l.l (treeC 0 (normC p l.l t))=leafC (normC p l.l t):=nfp_self hn
    rw [e1,leaf_size]
    exact hsz
   rw [h3]
   exact ⟨_,fun h=>f29 (normP p l.l t) zq l zl (treeC 0 (normC p l.l t)) (fun _=>g2) hs2 h,fun h=>f30 (normP p l.l t) zq l zl (treeC 0 (normC p l.l t)) (fun _=>g2) hs2 h⟩
  ·rw [normR_no h0]
   have hs2:(typT zPo l.l t).2=0→(normC zPo l.l t).size≤1000:=fun h=>absurd (ready_of (fit_of h).1.ready).chk chk_zPo
   exact ⟨_,fun h=>f29 zPo sz_zPo l zl t (fun e=>absurd e chk_zPo) hs2 h,fun h=>f30 zPo sz_zPo l zl t (fun e=>absurd e chk_zPo) hs2 h⟩
 generalize isR p l.l t=I at *
 generalize (normR p l.l t).2=e at *
 generalize (normR p l.l t).1=q at *
 have b1:=beq_avS _ beq_us q.uses
 have b2:=beq_avS _ beq_rf q.reveal
 have b3:=beq_avS _ beq_nd q.nodes
 cases I<;>cases B<;>simp [c7,KL,lendF,k24,k27,k29,k30,m29,m30,aw,q1,q2,q3,q4,b1,b2,b3]
end Go.Ab.Pz
