/-
  Fields that no node mentions: the values of the nodes.
-/
import Derived.Test.YtfpmflgjbpnkjaaAb41P85
import Derived.Test.YtfpmflgjbpnkjaaAb41P59
import Derived.Test.YtfpmflgjbpnkjaaAbRefs
set_option linter.unusedVariables false
set_option linter.unusedSimpArgs false
set_option linter.unusedSectionVars false
namespace Go.Ab.Pl
open Go.Ab.Pol
set_option maxRecDepth 100000
set_option maxHeartbeats 2000000
mutual
theorem refs_found {f:Nd→Option VT} {ns:List Nd}:∀ (t:Tr) (c:Bool),Pol.IsT ns t→WF t c→(∀ s∈t.subs,(condE f s).2=0)→(c=false→(f t.n).isSome=true)→∀ s∈t.subs,s.n.k=9→(f s.n).isSome=true
 | .nd i n ks,c,ht,⟨w1,w2⟩,hc,hf,s,hs,hk=>by
  obtain ⟨k0,k12,k8,hkid,_⟩:=form_parts w1
  simp only [Tr.subs,List.mem_cons] at hs
  rcases hs with rfl | hs
  ·refine hf ?_
   simp only [Tr.n] at hk
   rw [hk] at k8
   simpa using k8.symm
  ·have hlen:n.kids.l.length=ks.length:=by rw [ht.2.1];simp
   refine refss_found ks _ ht.2.2 w2 (fun s hs=>hc s (by simp [Tr.subs,hs])) (fun h5 k hk=>?_) s hs hk
   have h5:5 < n.k:=by simpa using h5
   by_cases h8:n.k≤8
   ·obtain ⟨vs,e1,_⟩:=cond_parts (f:=f) (i:=i) (n:=n) (ks:=ks) (by omega) (hc _ (by simp [Tr.subs]))
    exact kids_vt e1 k hk
   ·have h0:ks.length=0:=by
     rw [hlen] at hkid
     have:n.k=9∨n.k=10∨n.k=11:=by omega
     rcases this with e | e | e<;>simpa [kidsOk,e] using hkid
    have:=List.length_eq_zero_iff.1 h0
    subst this
    cases hk
theorem refss_found {f:Nd→Option VT} {ns:List Nd}:∀ (ts:List Tr) (c:Bool),Pol.IsTs ns ts→WFs ts c→(∀ s∈Tr.subss ts,(condE f s).2=0)→(c=false→∀ k∈ts,(f k.n).isSome=true)→∀ s∈Tr.subss ts,s.n.k=9→(f s.n).isSome=true
 | [],_,_,_,_,_,s,hs,_=>by simp [Tr.subss] at hs
 | t :: ts,c,ht,w,hc,hf,s,hs,hk=>by
  simp only [Tr.subss,List.mem_append] at hs
  rcases hs with hs | hs
  ·exact refs_found t c ht.1 w.1 (fun s hs=>hc s (by simp [Tr.subss,hs])) (fun e=>hf e t (by simp)) s hs hk
  ·exact refss_found ts c ht.2 w.2 (fun s hs=>hc s (by simp [Tr.subss,hs])) (fun e k hk=>hf e k (by simp [hk])) s hs hk
end
theorem refR_mem {r:Rf}:∀ (l:List Tr) (acc:List Rf),r∈l.foldl (fun acc s=>addR acc s.n) acc↔r∈acc∨∃ s∈l,s.n.k=9∧r=⟨s.n.nm,s.n.attr⟩
 | [],acc=>by simp
 | x :: l,acc=>by
  have ha:∀ {acc:List Rf} {n:Nd},r∈addR acc n↔r∈acc∨(n.k=9∧r=⟨n.nm,n.attr⟩):=fun {acc n}=>by
   unfold addR
   by_cases h:n.k=9
   ·rw [if_pos h]
    split
    ·rename_i hm
     constructor
     ·exact .inl
     ·rintro (h1 | ⟨_,rfl⟩)
      ·exact h1
      ·exact hm
    ·simp [h]
   ·rw [if_neg h]
    simp [h]
  rw [List.foldl_cons,refR_mem l,ha]
  constructor
  ·rintro ((h | h) | ⟨s,hs,h⟩)
   ·exact .inl h
   ·exact .inr ⟨x,by simp,h⟩
   ·exact .inr ⟨s,by simp [hs],h⟩
  ·rintro (h | ⟨s,hs,h⟩)
   ·exact .inl (.inl h)
   ·rcases List.mem_cons.1 hs with rfl | hs
    ·exact .inl (.inr h)
    ·exact .inr ⟨s,hs,h⟩
theorem refP_mem {p:Po} {t:Tr} (h:Pol.IsT p.nodes.l t) {r:Rf}:r∈refsP p t↔∃ s∈t.subs,s.n.k=9∧r=⟨s.n.nm,s.n.attr⟩:=by
 rw [refsP_T h]
 unfold refsT
 rw [refR_mem]
 simp
theorem ref_field {p:Po} {l:List Sc} {t:Tr} (g:Pol.Good p t) (hF:FitP p l t) {r:Rf} (hr:r∈refsP p t):∃ q,findF p.uses.l l r=some q:=by
 obtain ⟨s,hs,hk,rfl⟩:=(refP_mem g.isT).1 hr
 have:=refs_found t true g.isT g.wf hF.conds (fun e=>by cases e) s hs hk
 unfold vtOf at this
 rw [if_neg (by omega),if_neg (by omega)] at this
 cases e:findF p.uses.l l ⟨s.n.nm,s.n.attr⟩ with
 | none=>rw [e] at this;simp at this
 | some q=>exact ⟨q,rfl⟩
theorem useI_at {us:List Us} {nm:Bs} {u:Nat} (h:useI us nm=some u):∃ x,us[u]?=some x∧x.al=nm:=by
 unfold useI at h
 obtain ⟨h1,h2,_⟩:=List.findIdx?_eq_some_iff_getElem.1 h
 exact ⟨us[u],List.getElem?_eq_getElem h1,by simpa using h2⟩
theorem fdI_at {s:Sc} {nm:Bs} {j:Nat} (h:fdI s nm=some j):∃ f,s.fields.l[j]?=some f:=by
 unfold fdI at h
 obtain ⟨h1,_⟩:=List.findIdx?_eq_some_iff_getElem.1 h
 exact ⟨_,List.getElem?_eq_getElem h1⟩
theorem find_back {p:Po} {l:List Sc} {nm attr:Bs} {u j:Nat} (h1:useI p.uses.l nm=some u) (h2:fdI (scU p l u) attr=some j):∃ f,findF p.uses.l l ⟨nm,attr⟩=some (u,j,f):=by
 obtain ⟨x,hx,_⟩:=useI_at h1
 cases e:scN l x.sc with
 | none=>
  have:scU p l u=zSc:=by unfold scU;rw [hx];simp [e]
  rw [this] at h2
  cases h2
 | some s=>
  have hs:scU p l u=s:=by unfold scU;rw [hx];simp [e]
  rw [hs] at h2
  obtain ⟨f,hf⟩:=fdI_at h2
  exact ⟨f,by simp [findF,h1,hx,e,h2,hf]⟩
theorem ign_vl {p:Po} {l:List Sc} {xs:List (Sl Int)} {t:Tr} (g:Pol.Good p t) {i k:Nat} (n:Int) (hr:∀ r∈refsP p t,∀ u j f,findF p.uses.l l r=some (u,j,f)→¬ (i=u∧k=j)) :
  ∀ s∈t.subs,vlOf p l xs s.n=vlOf p l (setR xs i k n) s.n:=fun s hs=>by
 refine vl_set fun c1 c2 u j h1 h2=>?_
 obtain ⟨c,w⟩:=subsW g.wf s hs
 obtain ⟨x,hx,ha⟩:=useI_at h1
 have hne:s.n.nm≠[]:=fun e=>by
  have hn:=g.names
  unfold namesOk at hn
  simp only [Bool.and_eq_true] at hn
  have:=List.all_eq_true.1 hn.1.2 x (List.mem_of_getElem? hx)
  simp only [Bool.and_eq_true,nameOk,decide_eq_true_eq] at this
  exact this.1.1.1.2 (by rw [ha,e])
 have hk:s.n.k=9:=by
  cases s with
  | nd i' m ks=>
   obtain ⟨k0,k12,_,_,ht,_⟩:=form_parts w.1
   simp only [Tr.n] at c1 c2 hne ⊢
   apply Classical.byContradiction
   intro h9
   unfold textsOk at ht
   rw [if_neg h9,if_neg c2] at ht
   simp only [Bool.and_eq_true,decide_eq_true_eq] at ht
   exact hne ht.1
 obtain ⟨f,hf⟩:=find_back h1 h2
 exact hr _ ((refP_mem g.isT).2 ⟨s,hs,hk,rfl⟩) u j f hf
theorem ign_truth {p:Po} {l:List Sc} {xs:List (Sl Int)} {t:Tr} (g:Pol.Good p t) {i k:Nat} (n:Int) (hr:∀ r∈refsP p t,∀ u j f,findF p.uses.l l r=some (u,j,f)→¬ (i=u∧k=j)) :
  truth (vlOf p l xs) t=truth (vlOf p l (setR xs i k n)) t:=
 truth_congr (by simp [vlOf,numN]) t (ign_vl g n hr)
end Go.Ab.Pl
