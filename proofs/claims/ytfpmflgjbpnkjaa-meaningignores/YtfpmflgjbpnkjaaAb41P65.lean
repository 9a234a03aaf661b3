/-
  What Truths marks: every condition's truth, and nothing else.
-/
import Derived.Test.YtfpmflgjbpnkjaaAb41P62
import Derived.Test.YtfpmflgjbpnkjaaAbRefs
import Derived.Test.YtfpmflgjbpnkjaaAb41T5
import Derived.Test.YtfpmflgjbpnkjaaAb41A
set_option linter.unusedVariables false
set_option linter.unusedSimpArgs false
set_option linter.unusedSectionVars false
namespace Go.Ab.Pl
open Go.Ab.Pol
set_option maxRecDepth 100000
set_option maxHeartbeats 2000000
section
variable (vl:Nd→Vl)
mutual
theorem mark_out:∀ (t:Tr) (B:List Bool) (j:Nat),j∉t.pre→(mark vl t B)[j]?=B[j]?
 | .nd i n ks,B,j,h=>by
  simp only [Tr.pre,List.mem_cons,not_or] at h
  unfold mark
  rw [List.getElem?_set_ne (fun e=>h.1 e.symm)]
  split
  ·exact marks_out ks B j h.2
  ·rfl
theorem marks_out:∀ (ts:List Tr) (B:List Bool) (j:Nat),j∉Tr.pres ts→(marks vl ts B)[j]?=B[j]?
 | [],B,j,h=>rfl
 | t :: ts,B,j,h=>by
  simp only [Tr.pres,List.mem_append,not_or] at h
  unfold marks
  rw [marks_out ts _ j h.2,mark_out t B j h.1]
end
theorem subs_pre {t s:Tr} (h:s∈t.subs):s.i∈t.pre:=by
 rw [pre_subs]
 exact List.mem_map.2 ⟨s,h,rfl⟩
theorem subss_pres {ts:List Tr} {s:Tr} (h:s∈Tr.subss ts):s.i∈Tr.pres ts:=by
 rw [pres_subss]
 exact List.mem_map.2 ⟨s,h,rfl⟩
theorem kids_len {ns:List Nd} {i:Nat} {n:Nd} {ks:List Tr} (h:Pol.IsT ns (.nd i n ks)):n.kids.l.length=ks.length:=by rw [h.2.1];simp
theorem val_leaf {ns:List Nd} {q:Tr} (h:Pol.IsT ns q) (hw:WF q false):q.subs=[q]∧9≤q.n.k:=by
 have hv:=wf_val hw
 cases q with
 | nd i n ks=>
  obtain ⟨_,_,_,hkid,_⟩:=form_parts hw.1
  simp only [Tr.n] at hv ⊢
  rw [kids_len h] at hkid
  have h0:ks.length=0:=by rcases hv with q | q | q<;>simpa [kidsOk,q] using hkid
  have:ks=[]:=List.length_eq_zero_iff.1 h0
  subst this
  exact ⟨by simp [Tr.subs,Tr.subss],by omega⟩
theorem vals_leaf {ns:List Nd} {ks:List Tr} (h:Pol.IsTs ns ks) (hw:WFs ks false):∀ s∈Tr.subss ks,9≤s.n.k:=by
 intro s hs
 rw [subss_flat,List.mem_flatMap] at hs
 obtain ⟨q,hq,hs⟩:=hs
 obtain ⟨e,hk⟩:=val_leaf (isTs_iff.1 h q hq) (wfs_iff.1 hw q hq)
 rw [e,List.mem_singleton] at hs
 rw [hs];exact hk
mutual
theorem mark_in {ns:List Nd}:∀ (t:Tr) (B:List Bool),Pol.IsT ns t→WF t true→t.pre.Nodup→(∀ j∈t.pre,j < B.length)→∀ s∈t.subs,(mark vl t B)[s.i]?=if s.n.k≤8 then some (truth vl s) else B[s.i]?
 | .nd i n ks,B,hT,hW,hnd,hlt,s,hs=>by
  simp only [Tr.subs,List.mem_cons] at hs
  obtain ⟨k0,k12,k8,hkid,_⟩:=form_parts hW.1
  have k8:n.k≤8:=by simpa using k8
  rcases hs with rfl | hs
  ·rw [mark_self vl _ B (hlt _ (by simp [Tr.pre,Tr.i]))]
   exact (if_pos (show (Tr.nd i n ks).n.k≤8 from k8)).symm
  ·have hsp:=subss_pres hs
   simp only [Tr.pre,List.nodup_cons] at hnd
   have hne:i≠s.i:=fun e=>hnd.1 (by rw [e];exact hsp)
   unfold mark
   rw [List.getElem?_set_ne hne]
   by_cases c:2≤n.k∧n.k≤5
   ·rw [if_pos c]
    have hw:WFs ks true:=by have:=hW.2;simpa [c.2] using this
    exact marks_in ks B hT.2.2 hw hnd.2 (fun j hj=>hlt j (by simp [Tr.pre,hj])) s hs
   ·rw [if_neg c]
    by_cases c6:6≤n.k
    ·have hw:WFs ks false:=by
      have:=hW.2
      rwa [show decide (n.k≤5)=false by simp;omega] at this
     have:=vals_leaf hT.2.2 hw s hs
     rw [if_neg (by omega)]
    ·have:n.k=0∨n.k=1:=by omega
     rw [kids_len hT] at hkid
     have h0:ks.length=0:=by rcases this with q | q<;>simpa [kidsOk,q] using hkid
     have:ks=[]:=List.length_eq_zero_iff.1 h0
     subst this
     simp [Tr.subss] at hs
theorem marks_in {ns:List Nd}:∀ (ts:List Tr) (B:List Bool),Pol.IsTs ns ts→WFs ts true→(Tr.pres ts).Nodup→(∀ j∈Tr.pres ts,j < B.length)→∀ s∈Tr.subss ts,(marks vl ts B)[s.i]?=if s.n.k≤8 then some (truth vl s) else B[s.i]?
 | [],B,_,_,_,_,s,hs=>by simp [Tr.subss] at hs
 | t :: ts,B,hT,hW,hnd,hlt,s,hs=>by
  simp only [Tr.pres] at hnd hlt
  obtain ⟨n1,n2,n3⟩:=List.nodup_append.1 hnd
  simp only [Tr.subss,List.mem_append] at hs
  unfold marks
  rcases hs with hs | hs
  ·have hsp:=subs_pre hs
   rw [marks_out vl ts _ _ (fun h=>n3 _ hsp _ h rfl)]
   exact mark_in t B hT.1 hW.1 n1 (fun j hj=>hlt j (by simp [hj])) s hs
  ·have hsp:=subss_pres hs
   rw [marks_in ts _ hT.2 hW.2 n2 (fun j hj=>by rw [mark_len];exact hlt j (by simp [hj])) s hs]
   split
   ·rfl
   ·exact mark_out vl t B _ (fun h=>n3 _ h _ hsp rfl)
end
end
end Go.Ab.Pl
/-
  The statements of chapter 45 on the evaluator: counts.
-/
namespace Go.Ab.Pl
open Go.Ab.Pol
set_option maxRecDepth 100000
set_option maxHeartbeats 4000000
theorem few45_sz {p:Po} (hp:aPo p) {l:Sl Sc} (hl:okSl aSc l) {xs:List (Sl Int)} (h:few45 p l.l xs=true):Sz p∧okL l:=by
 unfold few45 at h
 simp only [Bool.and_eq_true,decide_eq_true_eq] at h
 obtain ⟨⟨⟨_,h1⟩,h2⟩,_⟩:=h
 refine ⟨few_sz41 hp h1,?_⟩
 unfold shL at h2
 simp only [Bool.and_eq_true,decide_eq_true_eq] at h2
 obtain ⟨h3,h4⟩:=h2
 rw [List.take_of_length_le (by omega)] at h3
 refine ⟨by omega,fun s hs=>?_⟩
 have a:=hl.2 s hs
 have b:=List.all_eq_true.1 h3 s hs
 unfold shS at b
 simp only [Bool.and_eq_true,decide_eq_true_eq] at b
 obtain ⟨⟨b1,b2⟩,b3⟩:=b
 refine ⟨a.name,by omega,fun f hf=>?_⟩
 have c:=a.fields.2 f hf
 have d:=List.all_eq_true.1 b3 f hf
 unfold shF at d
 simp only [Bool.and_eq_true,decide_eq_true_eq] at d
 exact ⟨c.name,by omega,c.words.2⟩
def zNd45:Nd:=⟨0,0,[],[],⟨true,[]⟩,0⟩
theorem tree_of45 (p:Po):∃ t,chk p=0→Pol.Good p t:=by
 by_cases h:chk p=0
 ·obtain ⟨t,g⟩:=chk_good h
  exact ⟨t,fun _=>g⟩
 ·exact ⟨.nd 0 zNd45 [],fun q=>absurd q h⟩
end Go.Ab.Pl
/-
  The case of chapter 45 as an argument.
-/
namespace Go.Ab.Pl
open Go.Ab.Pol
open _root_.Go.Proofs _root_.Go.ChangeMaps _root_.Go.ChangeShapes _root_.Go.WideShapes _root_.Go.RowKit
set_option maxRecDepth 100000
structure Cas where
 p:Po
 l:Sl Sc
 xs:Sl (Sl Int)
abbrev Cas.cs (x:Cas):List AV:=x.p.cs++[x.l.avS Sc.av,xsAV x.xs]
abbrev Cas.av (x:Cas):AV:=.agg x.cs
structure aCas (x:Cas):Prop where
 p:aPo x.p
 l:okSl aSc x.l
 xs:okSl (okSl (okI .i64)) x.xs
abbrev fsCas:List TT:=[ttPo,.slice ttSc,.slice (.slice (.int .i64))]
theorem cs_Cas (l:List AV) (h:TT.Hass fsCas l):∃ x:Cas,l=Cas.cs x∧aCas x:=by
 obtain ⟨a0,b0,rfl,p0,q0⟩:=has_cons h
 obtain ⟨x0,rfl,y0⟩:=cs_Po a0 p0
 obtain ⟨a1,b1,rfl,p1,q1⟩:=has_cons q0
 obtain ⟨x1,rfl,y1⟩:=rd_cell rfl (rd_sl rd_Sc) p1
 obtain ⟨a2,b2,rfl,p2,q2⟩:=has_cons q1
 obtain ⟨x2,rfl,y2⟩:=rd_cell rfl (rd_sl (rd_sl (rd_int .i64))) p2
 obtain rfl:=has_nil q2
 exact ⟨⟨x0,x1,x2⟩,rfl,⟨y0,y1,y2⟩⟩
theorem rd_Cas:Rd (.struct fsCas) Cas.av aCas:=rd_struct cs_Cas
section
variable {H:Type} {enc:TypeId×Value→H} {W:World} {base b:Nat} {sp:Nat→Bool} {hd:Bool} {v:Value} {d:DataW H} {ps:List MemPlace}
theorem arg_Cas (hv:Value.okWide Try.prog W .any base 83 v) (h:DataW.Trod enc Try.prog W b sp hd 83 v d ps) (hz:∀ n∈d.weights Try.prog 83,n≤reachBytes):∃ x:Cas,aCas x∧VRel W (G0 W) NoLoc x.av v:=by
 obtain ⟨av,h1,h2,h3⟩:=arg_of (.struct fsCas) (by kernel_rfl) hv h hz
 obtain ⟨x,rfl,k⟩:=rd_Cas av h2 h1
 exact ⟨x,k,h3⟩
end
end Go.Ab.Pl
