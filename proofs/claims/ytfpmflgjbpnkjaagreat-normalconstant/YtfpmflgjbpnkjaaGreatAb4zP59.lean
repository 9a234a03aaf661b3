/-
  The meaning of a policy: the values of a policy that fits.
-/
import Derived.Test.YtfpmflgjbpnkjaaGreatAb4zP56
set_option linter.unusedVariables false
set_option linter.unusedSimpArgs false
set_option linter.unusedSectionVars false
namespace Go.Ab.Pz
open Go.Ab.Pol
set_option maxRecDepth 100000
set_option maxHeartbeats 2000000
theorem kind_of {s:Sc} (h:schE s=0) {f:Pol.Fd} (hf:f∈s.fields.l):f.kind=0∨f.kind=1:=by
 have:=sch_field h f hf
 unfold fieldE at this
 by_cases k0:f.kind=0
 ·exact .inl k0
 by_cases k1:f.kind=1
 ·exact .inr k1
 ·simp [k0,k1] at this
theorem findF_some {p:Po} {l:List Sc} {nm attr:Bs} {u k:Nat} {f:Pol.Fd} (h:findF p.uses.l l ⟨nm,attr⟩=some (u,k,f)) :
  ∃ x s,useI p.uses.l nm=some u∧p.uses.l[u]?=some x∧scN l x.sc=some s∧scU p l u=s∧fdI s attr=some k∧s.fields.l[k]?=some f:=by
 unfold findF at h
 simp only at h
 split at h
 ·cases h
 rename_i u' e1
 split at h
 ·cases h
 rename_i x e2
 split at h
 ·cases h
 rename_i s e3
 split at h
 ·cases h
 rename_i k' e4
 split at h
 ·cases h
 rename_i f' e5
 simp only [Option.some.injEq,Prod.mk.injEq] at h
 obtain ⟨rfl,rfl,rfl⟩:=h
 exact ⟨x,s,e1,e2,e3,by unfold scU;rw [e2];simp [e3],e4,e5⟩
theorem adm_len {p:Po} {l:List Sc} {xs:List (Sl Int)} (h:admE p l xs=0):xs.length=p.uses.l.length∧xs.zipIdx.all (lenOk p l)=true∧xs.zipIdx.all (rowOk p l)=true:=by
 unfold admE at h
 split at h
 ·simp at h
 rename_i a
 split at h
 ·simp at h
 rename_i b
 split at h
 ·simp at h
 rename_i c
 exact ⟨by simpa using a,by simpa using b,by simpa using c⟩
theorem adm_val {p:Po} {l:List Sc} {xs:List (Sl Int)} (h:admE p l xs=0) {u:Nat} (hu:u < p.uses.l.length) {k:Nat} {f:Pol.Fd} (hf:(scU p l u).fields.l[k]?=some f) :
  ∃ r x,xs[u]?=some r∧r.l[k]?=some x∧loF f≤x∧x≤hiF f:=by
 obtain ⟨h1,h2,h3⟩:=adm_len h
 have hu':u < xs.length:=by omega
 have hr:xs[u]?=some xs[u]:=List.getElem?_eq_getElem hu'
 generalize xs[u]=r at hr
 have hm:(r,u)∈xs.zipIdx:=List.mem_zipIdx_iff_getElem?.2 hr
 have a:=List.all_eq_true.1 h2 _ hm
 have b:=List.all_eq_true.1 h3 _ hm
 simp only [lenOk,decide_eq_true_eq] at a
 have hk:k < r.l.length:=by rw [a];exact (List.getElem?_eq_some_iff.1 hf).1
 have hx:r.l[k]?=some r.l[k]:=List.getElem?_eq_getElem hk
 generalize r.l[k]=x at hx
 have hm2:(x,k)∈r.l.zipIdx:=List.mem_zipIdx_iff_getElem?.2 hx
 have c:=List.all_eq_true.1 b _ hm2
 unfold inR at c
 simp only [hf,Bool.and_eq_true,decide_eq_true_eq] at c
 exact ⟨r,x,hr,hx,c.1,c.2⟩
theorem valAt_of {p:Po} {l:List Sc} {xs:List (Sl Int)} (h:admE p l xs=0) {n:Nd} {u k:Nat} {f:Pol.Fd} (hu:u < p.uses.l.length) (hk:fdI (scU p l u) n.attr=some k) (hf:(scU p l u).fields.l[k]?=some f) :
  ∃ x:Int,loF f≤x∧x≤hiF f∧valAt p l xs n u=if f.kind=1 then .word ((f.words.l[x.toNat]?).getD []) else .num x:=by
 obtain ⟨r,x,h1,h2,h3,h4⟩:=adm_val h hu hf
 refine ⟨x,h3,h4,?_⟩
 unfold valAt
 simp only [hk,hf,h1,h2]
theorem word_in {f:Pol.Fd} (hk:f.kind=1) {x:Int} (h1:loF f≤x) (h2:x≤hiF f):0≤x∧∃ w,f.words.l[x.toNat]?=some w∧w∈f.words.l:=by
 unfold loF at h1
 unfold hiF at h2
 rw [if_pos hk] at h1 h2
 have hlt:x.toNat < f.words.l.length:=by omega
 exact ⟨h1,f.words.l[x.toNat],List.getElem?_eq_getElem hlt,List.getElem_mem hlt⟩
theorem vals_of {p:Po} {l:List Sc} {xs:List (Sl Int)} (hs:∀ s∈l,schE s=0) (h:admE p l xs=0):Vals (fdOf p.uses.l l) (vlOf p l xs) where
 num n hn:=by simp [vlOf,hn]
 word n hn:=by simp [vlOf,hn]
 same a b ha hb e1 e2:=by
  unfold vlOf valAt
  rw [if_neg (by omega),if_neg (by omega),if_neg (by omega),if_neg (by omega),e1,e2]
 fldN n hn h0:=by
  unfold vlOf
  rw [if_neg (by omega),if_neg (by omega)]
  unfold fdOf at h0 ⊢
  cases hf:findF p.uses.l l ⟨n.nm,n.attr⟩ with
  | none=>
   refine ⟨0,?_,by simp [zFd],by simp [zFd]⟩
   unfold findF at hf
   simp only at hf
   cases e1:useI p.uses.l n.nm with
   | none=>rfl
   | some u=>
    simp only [e1] at hf
    simp only
    have hu:u < p.uses.l.length:=by
     unfold useI at e1
     exact (List.findIdx?_eq_some_iff_getElem.1 e1).1
    rw [List.getElem?_eq_getElem hu] at hf
    simp only at hf
    have hS:scU p l u=(scN l p.uses.l[u].sc).getD zSc:=by unfold scU;rw [List.getElem?_eq_getElem hu]
    cases e2:scN l p.uses.l[u].sc with
    | none=>
     rw [e2] at hS
     unfold valAt
     rw [hS]
     simp [zSc,fdI]
    | some s=>
     rw [e2] at hS hf
     simp only at hf
     unfold valAt
     rw [hS]
     simp only [Option.getD_some]
     cases e3:fdI s n.attr with
     | none=>rfl
     | some k=>
      rw [e3] at hf
      simp only at hf
      have hk:k < s.fields.l.length:=by
       unfold fdI at e3
       exact (List.findIdx?_eq_some_iff_getElem.1 e3).1
      rw [List.getElem?_eq_getElem hk] at hf
      cases hf
  | some q=>
   obtain ⟨u,k,f⟩:=q
   obtain ⟨x,s,a1,a2,a3,a4,a5,a6⟩:=findF_some hf
   rw [hf] at h0
   simp only at h0 ⊢
   have hu:u < p.uses.l.length:=(List.getElem?_eq_some_iff.1 a2).1
   obtain ⟨y,b1,b2,b3⟩:=valAt_of (n:=n) h hu (by rw [a4];exact a5) (by rw [a4];exact a6)
   rw [a1]
   simp only
   rw [b3,if_neg (by omega)]
   unfold loF at b1
   unfold hiF at b2
   rw [if_neg (by omega)] at b1 b2
   exact ⟨y,rfl,b1,b2⟩
 fldW n hn h0:=by
  unfold vlOf
  rw [if_neg (by omega),if_neg (by omega)]
  unfold fdOf at h0 ⊢
  cases hf:findF p.uses.l l ⟨n.nm,n.attr⟩ with
  | none=>rw [hf] at h0;simp [zFd] at h0
  | some q=>
   obtain ⟨u,k,f⟩:=q
   obtain ⟨x,s,a1,a2,a3,a4,a5,a6⟩:=findF_some hf
   rw [hf] at h0
   simp only at h0 ⊢
   have hu:u < p.uses.l.length:=(List.getElem?_eq_some_iff.1 a2).1
   obtain ⟨y,b1,b2,b3⟩:=valAt_of (n:=n) h hu (by rw [a4];exact a5) (by rw [a4];exact a6)
   have hk:f.kind=1:=(kind_of (hs s (scN_of a3).1) (List.mem_of_getElem? a6)).resolve_left h0
   obtain ⟨_,w,c1,c2⟩:=word_in hk b1 b2
   rw [a1]
   simp only
   rw [b3,if_pos hk,c1]
   exact ⟨w,rfl,c2⟩
theorem sgB_fits {fd:Nd→Pol.Fd} {vl:Nd→Vl} (V:Vals fd vl) {how:Int} {a b:Nd} (hf:Fits fd how a b):sgB how (cmpVl (vl a) (vl b))=cmpV how (vl a) (vl b):=by
 obtain ⟨hh,ka,kb,hf⟩:=hf
 rcases hf with ⟨fa,fb⟩ | ⟨hw,fa,fb,_⟩
 ·obtain ⟨x,hx⟩:∃ x,vl a=.num x:=by
   rcases fa with ⟨q1,q2⟩ | q
   ·obtain ⟨x,hx,_⟩:=V.fldN a q1 q2;exact ⟨x,hx⟩
   ·exact ⟨_,V.num a q⟩
  obtain ⟨y,hy⟩:∃ x,vl b=.num x:=by
   rcases fb with ⟨q1,q2⟩ | q
   ·obtain ⟨x,hx,_⟩:=V.fldN b q1 q2;exact ⟨x,hx⟩
   ·exact ⟨_,V.num b q⟩
  rw [hx,hy]
  exact sgB_num hh x y
 ·obtain ⟨x,hx⟩:∃ x,vl a=.word x:=by
   rcases fa with ⟨q1,q2⟩ | q
   ·obtain ⟨x,hx,_⟩:=V.fldW a q1 q2;exact ⟨x,hx⟩
   ·exact ⟨_,V.word a q⟩
  obtain ⟨y,hy⟩:∃ x,vl b=.word x:=by
   rcases fb with ⟨q1,q2⟩ | q
   ·obtain ⟨x,hx,_⟩:=V.fldW b q1 q2;exact ⟨x,hx⟩
   ·exact ⟨_,V.word b q⟩
  rw [hx,hy]
  exact sgB_word hw x y
end Go.Ab.Pz
/-
  The meaning of a policy: the conditions of a policy that fits can be told.
-/
namespace Go.Ab.Pz
open Go.Ab.Pol
set_option maxRecDepth 100000
set_option maxHeartbeats 2000000
mutual
theorem subsW:∀ {t:Tr} {c:Bool},WF t c→∀ s∈t.subs,∃ c',WF s c'
 | .nd i n ks,c,h,s,hs=>by
  simp only [Tr.subs,List.mem_cons] at hs
  rcases hs with rfl | hs
  ·exact ⟨c,h⟩
  ·exact subssW h.2 s hs
theorem subssW:∀ {ts:List Tr} {c:Bool},WFs ts c→∀ s∈Tr.subss ts,∃ c',WF s c'
 | [],c,h,s,hs=>by simp [Tr.subss] at hs
 | t :: ts,c,h,s,hs=>by
  simp only [Tr.subss,List.mem_append] at hs
  rcases hs with hs | hs
  ·exact subsW h.1 s hs
  ·exact subssW h.2 s hs
end
theorem firstA_zero {v:VT} {l:List VT} (h:firstA (v :: l)=0):∀ x∈l,agreeV v x=0:=firstL_zero h
theorem uniq_al {p:Po} (h:(p.uses.l.map Us.al).Nodup) {nm:Bs} {u v:Nat} {x:Us} (hu:useI p.uses.l nm=some u) (hv:p.uses.l[v]?=some x) (hx:x.al=nm):v=u:=by
 unfold useI at hu
 obtain ⟨h1,h2,_⟩:=List.findIdx?_eq_some_iff_getElem.1 hu
 have h2:p.uses.l[u].al=nm:=by simpa using h2
 obtain ⟨g1,g2⟩:=List.getElem?_eq_some_iff.1 hv
 have e:(p.uses.l.map Us.al)[v]'(by simpa using g1)=(p.uses.l.map Us.al)[u]'(by simpa using h1):=by
  simp only [List.getElem_map]
  rw [g2,h2,hx]
 have hp:=List.pairwise_iff_getElem.1 h
 rcases Nat.lt_trichotomy v u with q | q | q
 ·exact absurd e (hp v u (by simpa using g1) (by simpa using h1) q)
 ·exact q
 ·exact absurd e.symm (hp u v (by simpa using h1) (by simpa using g1) q)
theorem ev_of {p:Po} (hp:p.uses.l.length≤1000) (hal:(p.uses.l.map Us.al).Nodup) {l:Sl Sc} (hl:okL l) {xs:Sl (Sl Int)} (hs:∀ s∈l.l,schE s=0) (h:admE p l.l xs.l=0) {i:Nat} {n:Nd} (hn:p.nodes.l[i]?=some n)
  (hv:(vtOf p.uses.l l.l n).isSome=true) (o:Loc) (N:Nat):Ev p l xs o N (i:Int) (vlOf p l.l xs.l n):=by
 have key:n.k≠10→n.k≠11→∃ q,findF p.uses.l l.l ⟨n.nm,n.attr⟩=some q:=fun h1 h2=>by
  unfold vtOf at hv
  rw [if_neg h1,if_neg h2] at hv
  cases e:findF p.uses.l l.l ⟨n.nm,n.attr⟩ with
  | none=>rw [e] at hv;cases hv
  | some q=>exact ⟨q,rfl⟩
 intro a hh ha hlt
 refine f154 p hp l hl xs o N i n hn (fun h1 h2=>?_) (fun h1 h2 u x hu hx=>?_) a hh ha hlt
 ·obtain ⟨⟨u,k,f⟩,e⟩:=key h1 h2
  obtain ⟨x,s,a1,_⟩:=findF_some e
  rw [a1];rfl
 ·obtain ⟨⟨u',k,f⟩,e⟩:=key h1 h2
  obtain ⟨x',s,a1,a2,a3,a4,a5,a6⟩:=findF_some e
  have:=uniq_al hal a1 hu hx
  subst this
  have hlt':u < p.uses.l.length:=(List.getElem?_eq_some_iff.1 a2).1
  obtain ⟨r,y,b1,b2,b3,b4⟩:=adm_val h hlt' (by rw [a4];exact a6)
  exact ⟨⟨k,f,r,y,by rw [a4];exact a5,by rw [a4];exact a6,b1,b2,fun hk=>by
   obtain ⟨c0,w,c1,_⟩:=word_in hk b3 b4
   exact ⟨c0,w,c1⟩⟩⟩
theorem kids_vt {f:Nd→Option VT} {ks:List Tr} {vs:List VT} (h:kidsV f ks=.inr vs):∀ q∈ks,(f q.n).isSome=true:=fun q hq=>by
 have:=kidsV_inr h
 have hm:f q.n∈ks.map (fun t=>f t.n):=List.mem_map.2 ⟨q,hq,rfl⟩
 rw [this] at hm
 obtain ⟨v,_,e⟩:=List.mem_map.1 hm
 rw [←e];rfl
theorem cond_parts {f:Nd→Option VT} {i:Nat} {n:Nd} {ks:List Tr} (hk:n.k=6∨n.k=7∨n.k=8) (h:(condE f (.nd i n ks)).2=0):∃ vs,kidsV f ks=.inr vs∧condV n vs=0:=by
 simp only [condE] at h
 rw [if_pos hk] at h
 cases e:kidsV f ks with
 | inl k=>rw [e] at h;simp at h
 | inr vs=>
  rw [e] at h
  simp only at h
  by_cases c:condV n vs=0
  ·exact ⟨vs,rfl,c⟩
  ·rw [if_neg c] at h;exact absurd h c
theorem atom_ok {p:Po} {t:Tr} (g:Pol.Good p t) {l:Sl Sc} (hl:okL l) (hf:FitP p l.l t) {xs:Sl (Sl Int)} (h:admE p l.l xs.l=0) (o:Loc) (N:Nat):∀ s∈t.subs,AtomOk p l xs o N (vlOf p l.l xs.l) s:=by
 intro s hs
 have hr:=ready_of hf.ready
 have hu:p.uses.l.length≤1000:=by have:=g.sizes;omega
 have V:=vals_of (p:=p) hr.sch h
 have hT:=subs_isT g.isT s hs
 obtain ⟨c,hW⟩:=subsW g.wf s hs
 have hC:=hf.conds s hs
 obtain ⟨i,n,ks⟩:=s
 obtain ⟨hn,hk,hks⟩:=hT
 obtain ⟨hfm,hw⟩:=hW
 obtain ⟨k0,k12,k8,hkid,_,hlo,hhi⟩:=form_parts hfm
 have kv:6≤n.k→n.k≤8→∀ q∈ks,q.n.k=9∨q.n.k=10∨q.n.k=11:=fun h1 h2 q hq=>by
  have:decide (n.k≤5)=false:=by simp;omega
  rw [this] at hw
  exact wf_val (wfs_iff.1 hw q hq)
 have two:∀ how,How how→∀ a∈ks,∀ b∈ks,6≤n.k→n.k≤8→∀ x y,vtOf p.uses.l l.l a.n=some x→vtOf p.uses.l l.l b.n=some y→agreeV x y=0→((how=0∨how=1)∨(isNum x=true∧isNum y=true)) →
   sgB how (cmpVl (vlOf p l.l xs.l a.n) (vlOf p l.l xs.l b.n))=cmpV how (vlOf p l.l xs.l a.n) (vlOf p l.l xs.l b.n):=fun how hh a ha b hb h1 h2 x y hx hy hag hn=>
  sgB_fits V (Pol.fits_of hh (kv h1 h2 a ha) (kv h1 h2 b hb) hx hy hag hn)
 constructor
 ·intro h6 q hq
  simp only [Tr.n,Tr.ks] at h6 hq
  by_cases h9:n.k≤8
  ·obtain ⟨vs,e1,_⟩:=cond_parts (show n.k=6∨n.k=7∨n.k=8 by omega) hC
   have hq1:=(isTs_iff.1 hks) q hq
   have hq2:p.nodes.l[q.i]?=some q.n:=by cases q;exact hq1.1
   exact ev_of hu g.aliases hl hr.sch h hq2 (kids_vt e1 q hq) o N
  ·exfalso
   have:n.k=9∨n.k=10∨n.k=11:=by omega
   have h0:n.kids.l.length=0:=by
    rcases this with q | q | q<;>simpa [kidsOk,q] using hkid
   rw [hk] at h0
   simp at h0
   rw [h0] at hq
   simp at hq
 ·intro h6 a b hab
  simp only [Tr.n,Tr.ks] at h6 hab ⊢
  subst hab
  obtain ⟨vs,e1,e2⟩:=cond_parts (.inl h6) hC
  have hlo':0≤n.num∧n.num≤5:=by simp [lowN,highN,h6] at hlo hhi;omega
  have hh:How n.num:=by unfold How;omega
  have e3:=kidsV_inr e1
  obtain ⟨x,y,rfl⟩:=two_of (l:=vs) (by have:=congrArg List.length e3;simpa using this.symm)
  ·simp only [List.map_cons,List.map_nil,List.cons.injEq,and_true] at e3
   unfold condV at e2
   rw [if_pos h6] at e2
   have hag:(agreeV x y=0)∧((n.num=0∨n.num=1)∨(isNum x=true∧isNum y=true)):=by
    split at e2
    ·simp at e2
    ·rename_i hc
     refine ⟨firstA_zero e2 y (by simp),?_⟩
     by_cases q0:n.num=0
     ·exact .inl (.inl q0)
     by_cases q1:n.num=1
     ·exact .inl (.inr q1)
     ·right
      simp [q0,q1] at hc
      exact hc
   exact ⟨hh,two n.num hh a (by simp) b (by simp) (by omega) (by omega) x y e3.1 e3.2 hag.1 hag.2⟩
 ·intro h7 a b c hab
  simp only [Tr.n,Tr.ks] at h7 hab ⊢
  subst hab
  obtain ⟨vs,e1,e2⟩:=cond_parts (.inr (.inl h7)) hC
  have e3:=kidsV_inr e1
  obtain ⟨x,y,z,rfl⟩:=three_of (l:=vs) (by have:=congrArg List.length e3;simpa using this.symm)
  ·simp only [List.map_cons,List.map_nil,List.cons.injEq,and_true] at e3
   unfold condV at e2
   rw [if_neg (by omega),if_pos h7] at e2
   have hnum:isNum x=true∧isNum y=true∧isNum z=true:=by
    split at e2
    ·simp at e2
    ·rename_i hc
     simpa using hc
   have hnn:∀ q r,isNum q=true→isNum r=true→agreeV q r=0:=fun q r hq hr=>by
    cases q<;>cases r<;>simp [isNum] at hq hr<;>rfl
   exact ⟨two 5 (by simp [How]) a (by simp) b (by simp) (by omega) (by omega) x y e3.1 e3.2.1 (hnn _ _ hnum.1 hnum.2.1) (.inr ⟨hnum.1,hnum.2.1⟩),
    two 3 (by simp [How]) a (by simp) c (by simp) (by omega) (by omega) x z e3.1 e3.2.2 (hnn _ _ hnum.1 hnum.2.2) (.inr ⟨hnum.1,hnum.2.2⟩)⟩
 ·intro h8 a r hab b hb
  simp only [Tr.n,Tr.ks] at h8 hab ⊢
  subst hab
  obtain ⟨vs,e1,e2⟩:=cond_parts (.inr (.inr h8)) hC
  have e3:=kidsV_inr e1
  match vs,e3 with
  | x :: ys,e3=>
   simp only [List.map_cons,List.cons.injEq] at e3
   unfold condV at e2
   rw [if_neg (by omega),if_neg (by omega)] at e2
   have hm:vtOf p.uses.l l.l b.n∈r.map (fun t=>vtOf p.uses.l l.l t.n):=List.mem_map.2 ⟨b,hb,rfl⟩
   rw [e3.2] at hm
   obtain ⟨y,hy,ey⟩:=List.mem_map.1 hm
   exact two 0 (by simp [How]) a (by simp) b (by simp [hb]) (by omega) (by omega) x y e3.1 ey.symm (firstA_zero e2 y hy) (.inl (.inl rfl))
end Go.Ab.Pz
/-
  The meaning of a policy: Truths and Holds.
-/
namespace Go.Ab.Pz
open Go.Ab.Pol
set_option maxRecDepth 100000
set_option maxHeartbeats 4000000
end Go.Ab.Pz
