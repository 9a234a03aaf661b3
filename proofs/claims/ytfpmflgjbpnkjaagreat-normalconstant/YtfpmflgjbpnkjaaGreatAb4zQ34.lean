/-
  The statement NormalConstant on the evaluator.
-/
import Derived.Test.YtfpmflgjbpnkjaaGreatAb4zQ20
import Derived.Test.YtfpmflgjbpnkjaaGreatAb4zP80
set_option linter.unusedVariables false
set_option linter.unusedSimpArgs false
set_option linter.unusedSectionVars false
namespace Go.Ab.Pz
open Go.Ab.Pol
set_option maxRecDepth 100000
set_option maxHeartbeats 4000000
def fldStep (k:Nat) (nm:Bs) (_:Unit) (s:Sc):Unit ⊕ Pol.Fd:=if s.name=nm then (match s.fields.l[k]? with
 | some f=>.inr f
 | none=>.inl ()) else .inl ()
theorem iter_fld {k:Nat} {nm:Bs} {S:Sc} {f:Pol.Fd} (hf:S.fields.l[k]?=some f):∀ l:List Sc,scN l nm=some S→iter (fldStep k nm) () l=.inr f
 | [],h=>by simp [scN] at h
 | s :: l,h=>by
  unfold scN at h
  simp only [iter,fldStep]
  by_cases e:s.name=nm
  ·rw [List.find?_cons_of_pos (by simp [e])] at h
   injection h with h
   subst h
   rw [if_pos e,hf]
  ·rw [List.find?_cons_of_neg (by simp [e])] at h
   rw [if_neg e]
   exact iter_fld hf l h
abbrev zf5:AV:=.agg [.str [],iV 0,iV 0,iV 0,.nils]
theorem f31 (q:Po) (l:Sl Sc) (hll:l.l.length≤1000) (hlf:∀ s∈l.l,s.fields.l.length≤1000) (hul:q.uses.l.length≤1000) (u k:Nat) (U:Us) (hu:q.uses.l[u]?=some U) (S:Sc) (hS:scN l.l U.sc=some S) (f:Pol.Fd) (hf:S.fields.l[k]?=some f) (h:Heap) :
  (mu K).fn 31 [q.av,l.avS Sc.av,iV (u:Int),iV (k:Int)] h=some (.val f.av h):=by
 have hul2:(u:Int) < (q.uses.l.length:Int):=by have:=(List.getElem?_eq_some_iff.1 hu).1;omega
 have hiu:=fun (kk:IntKind)=>iaF_sl (av:=Us.av) (sz:=2) (s:=q.uses) (k:=kk) (j:=(u:Int)) (x:=U) (by omega) (by simpa using hu) rfl
 have q1:=beq_avS _ beq_us q.uses
 have key:=loop_iter (K:=K) (n:=2) (live:=[1,2,3,4,8,9]) (a:=l31_0) (fldStep k U.sc)
  (fun pre _=>⟨[(1,l.avS Sc.av),(2,iV (u:Int)),(3,iV (k:Int)),(4,.ptr (h.length,0) 0),(8,.ptr (h.length,1) 0),(9,iV (pre.length:Int))],[.box 26 false q.av,.box 60 false zf5] :: h⟩)
  (fun _ _=>True)
  (fun _ o=>True)
  (fun f o=>∃ env,o=some (.ret,⟨env,[.box 26 false q.av,.box 60 false f.av] :: h⟩)∧get env 8=.ptr (h.length,1) 0) l.l
  (fun pre s r b hl' _=>by
   obtain ⟨h1,h2,w1⟩:=idx_facts hl' (by omega)
   have hix:=fun (kk:IntKind)=>iaF_sl (av:=Sc.av) (sz:=2) (s:=l) (k:=kk) (j:=(pre.length:Int)) (x:=s) (by omega) (by simpa using h2) rfl
   have qs:=beq_avS _ beq_fd s.fields
   have hsl:=hlf s (List.mem_of_getElem? h2)
   unfold fldStep
   rw [loop_go]
   generalize (mu K).code (.loopAt 2 [1,2,3,4,8,9] l31_0)=FF
   clear hl'
   by_cases e:s.name=U.sc
   ·rw [if_pos e]
    have e':(s.name=U.sc)=True:=eq_true e
    cases hk:s.fields.l[k]? with
    | none=>
     have hkl:((k:Int) < (s.fields.l.length:Int))=False:=by
      have:=List.getElem?_eq_none_iff.1 hk
      simp;omega
     refine ⟨fun b' e=>⟨trivial,?_⟩,fun r e=>by cases e⟩
     simp [l31_0,KL,lendF,h1,w1,hul2,hiu,hix,e',hkl,q1,qs]
    | some g=>
     have hkl:((k:Int) < (s.fields.l.length:Int))=True:=by
      have:=(List.getElem?_eq_some_iff.1 hk).1
      simp;omega
     have hig:=fun (kk:IntKind)=>iaF_sl (av:=Pol.Fd.av) (sz:=5) (s:=s.fields) (k:=kk) (j:=(k:Int)) (x:=g) (by omega) (by simpa using hk) rfl
     have qg:=beq_avS _ beq_strS g.words
     refine ⟨fun b' e=>(by cases e),fun r e=>?_⟩
     injection e with e
     subst e
     simp [l31_0,KL,lendF,h1,w1,hul2,hiu,hix,e',hkl,hig,q1,qs,qg]
   ·rw [if_neg e]
    have e':(s.name=U.sc)=False:=eq_false e
    refine ⟨fun b' _=>⟨trivial,?_⟩,fun r e=>by cases e⟩
    simp [l31_0,KL,lendF,h1,w1,hul2,hiu,hix,e',q1,qs])
  (fun b _=>trivial) () trivial
 rw [iter_fld hf l.l hS] at key
 obtain ⟨env,kk,g8⟩:=key
 have qf:=beq_avS _ beq_strS f.words
 simp only [List.length_nil,Int.natCast_zero] at kk
 rw [fn_go (KX _ _ _) fn31 rfl (by simp [c31])]
 simp [c31,KL,lendF,kk,g8,qf]
theorem l8_0_ok (p q:Po) (l:Sl Sc) (hll:l.l.length≤1000) (hlf:∀ s∈l.l,s.fields.l.length≤1000) (hul:q.uses.l.length≤1000) (R:List (List Int)) (u:Nat) (r:List Int) (hr:R[u]?=some r) (hrl:r.length≤1000) (okb:Bool)
  (U:Us) (hu:q.uses.l[u]?=some U) (S:Sc) (hS:scN l.l U.sc=some S) (H:∀ (k:Nat) (v:Int),r[k]?=some v→∃ f:Pol.Fd,S.fields.l[k]?=some f∧f.mn=v) (h:Heap) :
  ∃ env,(mu K).code (.loopAt 2 [1,5,7,8,10,11,12] l8_0) ⟨[(1,l.avS Sc.av),(5,.ptr (h.length,1) 0),(7,.lst (R.map rowAV)),(8,.bool okb),(10,.bool true),(11,iV (u:Int)),(12,iV 0)],[.box 26 false p.av,.box 26 false q.av] :: h⟩ =
   some (.exit 2,⟨env,[.box 26 false p.av,.box 26 false q.av] :: h⟩)∧get env 1=l.avS Sc.av∧get env 5=.ptr (h.length,1) 0∧get env 7=.lst (R.map rowAV)∧get env 8=.bool okb∧get env 10=.bool true∧get env 11=iV (u:Int):=by
 have q1:=beq_avS _ beq_us q.uses
 have q2:=beq_avS _ beq_rf q.reveal
 have q3:=beq_avS _ beq_nd q.nodes
 have hir:=fun (kk:IntKind)=>iaF_lst (sz:=1) (l:=R.map rowAV) (k:=kk) (j:=(u:Int)) (v:=rowAV r) (by omega) (by simp [hr]) (by simp)
 have key:=loop_iter (K:=K) (n:=2) (live:=[1,5,7,8,10,11,12]) (a:=l8_0) (ρ:=Unit) (fun (_:Unit) (x:Int)=>(.inl ():Unit ⊕ Unit))
  (fun pre _=>⟨[(1,l.avS Sc.av),(5,.ptr (h.length,1) 0),(7,.lst (R.map rowAV)),(8,.bool okb),(10,.bool true),(11,iV (u:Int)),(12,iV (pre.length:Int))],[.box 26 false p.av,.box 26 false q.av] :: h⟩)
  (fun _ _=>True)
  (fun _ o=>∃ env,o=some (.exit 2,⟨env,[.box 26 false p.av,.box 26 false q.av] :: h⟩)∧get env 1=l.avS Sc.av∧get env 5=.ptr (h.length,1) 0∧get env 7=.lst (R.map rowAV)∧get env 8=.bool okb∧get env 10=.bool true∧get env 11=iV (u:Int))
  (fun _ _=>False) r
  (fun pre v r' b hl' _=>by
   obtain ⟨h1,h2,w1⟩:=idx_facts hl' (by omega)
   have hix:=fun (kk:IntKind)=>iaF_lv (sz:=1) (nl:=true) (l:=r.map iV) (k:=kk) (j:=(pre.length:Int)) (v:=iV v) (by omega) (by simp [h2]) rfl
   obtain ⟨f,hf,hv⟩:=H _ _ h2
   have k31:=fun h=>f31 q l hll hlf hul u pre.length U hu S hS f hf h
   have qf:=beq_avS _ beq_strS f.words
   have hrn:(r.map iV).length=r.length:=by simp
   refine ⟨fun b' e=>⟨trivial,?_⟩,fun _ e=>by cases e⟩
   rw [loop_go]
   generalize (mu K).code (.loopAt 2 [1,5,7,8,10,11,12] l8_0)=FF
   clear hl' hr
   generalize R.map rowAV=M at *
   simp only [rowAV] at hir ⊢
   generalize r.map iV=N at *
   simp [l8_0,KL,lendF,h1,w1,hir,hix,hrn,k31,hv,qf,q1,q2,q3])
  (fun b _=>by
   have hrn:(r.map iV).length=r.length:=by simp
   rw [loop_go]
   generalize (mu K).code (.loopAt 2 [1,5,7,8,10,11,12] l8_0)=FF
   generalize R.map rowAV=M at *
   simp only [rowAV] at hir ⊢
   generalize r.map iV=N at *
   simp [l8_0,hir,hrn]) () trivial
 have e:iter (fun (_:Unit) (x:Int)=>(.inl ():Unit ⊕ Unit)) () r=.inl ():=by
  generalize r=l
  induction l with
  | nil=>rfl
  | cons x l ih=>simpa [iter] using ih
 rw [e] at key
 simpa using key.2
theorem l8_1_ok (p q:Po) (l:Sl Sc) (hll:l.l.length≤1000) (hlf:∀ s∈l.l,s.fields.l.length≤1000) (hul:q.uses.l.length≤1000) (R:List (List Int)) (hR:R.length≤1000) (okb:Bool)
  (HR:∀ (u:Nat) (r:List Int),R[u]?=some r→r.length≤1000∧∃ (U:Us) (S:Sc),q.uses.l[u]?=some U∧scN l.l U.sc=some S∧∀ (k:Nat) (v:Int),r[k]?=some v→∃ f:Pol.Fd,S.fields.l[k]?=some f∧f.mn=v) (h:Heap) :
  ∃ env,(mu K).code (.loopAt 2 [1,5,7,8,10,11] l8_1) ⟨[(1,l.avS Sc.av),(5,.ptr (h.length,1) 0),(7,.lst (R.map rowAV)),(8,.bool okb),(10,.bool true),(11,iV 0)],[.box 26 false p.av,.box 26 false q.av] :: h⟩ =
   some (.exit 0,⟨env,[.box 26 false p.av,.box 26 false q.av] :: h⟩)∧get env 5=.ptr (h.length,1) 0∧get env 8=.bool okb∧get env 10=.bool true:=by
 have key:=loop_iter (K:=K) (n:=2) (live:=[1,5,7,8,10,11]) (a:=l8_1) (ρ:=Unit) (fun (_:Unit) (x:List Int)=>(.inl ():Unit ⊕ Unit))
  (fun pre _=>⟨[(1,l.avS Sc.av),(5,.ptr (h.length,1) 0),(7,.lst (R.map rowAV)),(8,.bool okb),(10,.bool true),(11,iV (pre.length:Int))],[.box 26 false p.av,.box 26 false q.av] :: h⟩)
  (fun _ _=>True)
  (fun _ o=>∃ env,o=some (.exit 0,⟨env,[.box 26 false p.av,.box 26 false q.av] :: h⟩)∧get env 5=.ptr (h.length,1) 0∧get env 8=.bool okb∧get env 10=.bool true)
  (fun _ _=>False) R
  (fun pre r r' b hl' _=>by
   obtain ⟨h1,h2,w1⟩:=idx_facts hl' (by omega)
   obtain ⟨hrl,U,S,hu,hS,H⟩:=HR _ _ h2
   obtain ⟨env,k0,a1,a5,a7,a8,a10,a11⟩:=l8_0_ok p q l hll hlf hul R pre.length r h2 hrl okb U hu S hS H h
   have hRl:(R.map rowAV).length=R.length:=by simp
   refine ⟨fun b' e=>⟨trivial,?_⟩,fun _ e=>by cases e⟩
   rw [loop_go]
   generalize (mu K).code (.loopAt 2 [1,5,7,8,10,11] l8_1)=FF
   clear hl'
   generalize R.map rowAV=M at *
   simp [l8_1,KL,lendF,h1,w1,hRl,k0,a1,a5,a7,a8,a10,a11])
  (fun b _=>by
   have hRl:(R.map rowAV).length=R.length:=by simp
   rw [loop_go]
   generalize (mu K).code (.loopAt 2 [1,5,7,8,10,11] l8_1)=FF
   generalize R.map rowAV=M at *
   simp [l8_1,hRl]) () trivial
 have e:iter (fun (_:Unit) (x:List Int)=>(.inl ():Unit ⊕ Unit)) () R=.inl ():=by
  generalize R=l
  induction l with
  | nil=>rfl
  | cons x l ih=>simpa [iter] using ih
 rw [e] at key
 simpa using key.2
theorem l8_1_nil (p q:Po) (l:Sl Sc) (h:Heap) :
  ∃ env,(mu K).code (.loopAt 2 [1,5,7,8,10,11] l8_1) ⟨[(1,l.avS Sc.av),(5,.ptr (h.length,1) 0),(7,.nils),(8,.bool false),(10,.bool true),(11,iV 0)],[.box 26 false p.av,.box 26 false q.av] :: h⟩ =
   some (.exit 0,⟨env,[.box 26 false p.av,.box 26 false q.av] :: h⟩)∧get env 5=.ptr (h.length,1) 0∧get env 8=.bool false∧get env 10=.bool true:=by
 rw [loop_go]
 generalize (mu K).code (.loopAt 2 [1,5,7,8,10,11] l8_1)=FF
 simp [l8_1]
theorem dig_zero:∀ L:List Spn,dig L 0=(L.map Spn.lo,0)
 | []=>rfl
 | s :: r=>by simp [dig,dig_zero r]
theorem rows_first {p:Po} {l:List Sc} (hr:ReadyP p l) (u:Nat) (r:List Int) (h:(rowsN p l 3 0)[u]?=some r) :
  r.length≤1000∧∃ (U:Us) (S:Sc),p.uses.l[u]?=some U∧scN l U.sc=some S∧∀ (k:Nat) (v:Int),r[k]?=some v→∃ f:Pol.Fd,S.fields.l[k]?=some f∧f.mn=v:=by
 have hf:=fds_ok hr
 have hu:u < p.uses.l.length:=by
  have:=(List.getElem?_eq_some_iff.1 h).1
  rwa [rowsN_len] at this
 obtain ⟨a1,a2⟩:=filter_use (F:=spU p l 3) (spU_use p l 3) p.uses.l.length (dig (spansP p l 3) 0).1 u hu (dig_len _ _)
 rw [rowsN_get p l 3 0 u hu] at h
 injection h with h
 have hlen:r.length=(scU p l u).fields.l.length:=by rw [←h];exact a1.trans (by simp [spU])
 have hU:p.uses.l[u]?=some p.uses.l[u]:=List.getElem?_eq_getElem hu
 have hs:=hr.uses p.uses.l[u] (List.getElem_mem hu)
 obtain ⟨S,hS⟩:=Option.isSome_iff_exists.1 hs
 have hsc:scU p l u=S:=by unfold scU;rw [hU];simp [hS]
 refine ⟨by have:=hf.cnt u hu;omega,p.uses.l[u],S,hU,hS,fun k v hv=>?_⟩
 have hk:k < S.fields.l.length:=by
  have:=(List.getElem?_eq_some_iff.1 hv).1
  rw [←hsc];omega
 refine ⟨S.fields.l[k],List.getElem?_eq_getElem hk,?_⟩
 have h1:(scU p l u).fields.l[k]?=some S.fields.l[k]:=by rw [hsc];exact List.getElem?_eq_getElem hk
 have h3:=a2 k (spF 3 u S.fields.l[k]) v (by simp [spU,h1]) (by
  show (List.map (·.2) (((spansP p l 3).zip (dig (spansP p l 3) 0).1).filter fun q=>decide (q.1.u=u)))[k]?=some v
  rw [h]
  exact hv)
 have h4:v=loF S.fields.l[k]:=by
  rw [dig_zero] at h3
  rw [show (spansF (spU p l 3) p.uses.l.length)=spansP p l 3 from rfl] at h3
  have:∀ (L:List Spn) (s:Spn) (v:Int),(s,v)∈L.zip (L.map Spn.lo)→v=s.lo:=fun L=>by
   induction L with
   | nil=>intro s v h;simp at h
   | cons x L ih=>
    intro s v h
    simp only [List.map_cons,List.zip_cons_cons,List.mem_cons] at h
    rcases h with h | h
    ·injection h with e1 e2
     subst e1
     exact e2
    ·exact ih s v h
  exact this _ _ _ h3
 have h5:=(hf.ok u hu S.fields.l[k] (List.mem_of_getElem? h1)).2.2.2
 rw [h4]
 unfold loF
 rcases h5 with e | ⟨e,e2,_⟩
 ·rw [if_neg (by omega)]
 ·rw [if_pos e,e2]
theorem nf_size {us:List Us} {l:List Sc} {Q:Nd→Prop} {c:Cd} (h:NF us l Q c):3≤c.size:=by
 cases c with
 | atom k num vs=>rcases h.2 with ⟨_,a,b,rfl,_⟩ | ⟨_,_,x,lo,hi,rfl,_⟩<;>simp [Cd.size]
 | gate need ks=>
  have:=h.1
  have:=len_sizes ks
  simp only [Cd.size]
  omega
theorem truth_const {p:Po} {l:List Sc} {t:Tr} (ht:chk p=0→Pol.Good p t) (h:(normR p l t).2=0) {b:Bool} (hb:normC p l t=cB b) {xs:List (Sl Int)} (ha:admE p l xs=0):truth (vlOf p l xs) t=b:=by
 obtain ⟨g,hF,h1,h2,_⟩:=normR_ok ht h
 have hr:=ready_of hF.ready
 have V:=vals_of (p:=p) hr.sch ha
 have ty:=ty_of (us:=p.uses.l) (l:=l) t g.isT g.wf hF.conds
 have:=norm_says V t false ty
 unfold normC at hb
 rw [hb,says_cB (says_ok _)] at this
 rw [this]
 cases truth (vlOf p l xs) t<;>rfl
theorem found_const {p:Po} {l:List Sc} {t:Tr} {T:Nat} (hT:0 < T) (b:Bool) (H:∀ n,truth (vlOf p l (slN (rowsN p l 3 n))) t=b):found p l 3 t T=if b=true then .inr 0 else .inl ():=by
 unfold found
 have e:fnStep p l 3 t=fun (_:Unit) n=>if b=true then (.inr n:Unit ⊕ Nat) else .inl ():=by
  funext x n
  unfold fnStep
  rw [H n]
 rw [e]
 cases b with
 | true=>
  obtain ⟨T',rfl⟩:∃ T',T=T'+1:=⟨T - 1,by omega⟩
  simp [List.range_succ_eq_map,iter]
 | false=>
  simp only [Bool.false_eq_true,if_false]
  generalize List.range T=L
  induction L with
  | nil=>rfl
  | cons x L ih=>simpa [iter] using ih
theorem law8 (p:Po) (hp:aPo p) (l:Sl Sc) (hl:okSl aSc l):(mu K).fn 8 [p.av,l.avS Sc.av] []=some (.val (.bool true) []):=by
 have k24:=fun h=>f24 p l h
 have q1:=beq_avS _ beq_us p.uses
 have q2:=beq_avS _ beq_rf p.reveal
 have q3:=beq_avS _ beq_nd p.nodes
 have q4:=beq_avS _ beq_sc l
 have aw:=fun f=>awake46 f
 rw [fn_go (KX _ _ _) fn8 rfl (by simp [c8])]
 cases hf:few46 p l.l
 ·rw [hf] at k24
  simp [c8,KL,lendF,k24,aw,q1,q2,q3]
 rw [hf] at k24
 obtain ⟨z,zl,h60⟩:=few46_sz hp hl hf
 obtain ⟨t,ht⟩:=tree_of46 p
 have k26:=fun h=>f26 p z l zl t ht (size_le ht (by omega)) h
 by_cases h0:(normR p l.l t).2=0
 case neg=>
  rw [normR_no h0] at k26
  simp only [ez] at k26
  simp [c8,KL,lendF,k24,k26,h0,aw,q1,q2,q3]
 obtain ⟨g,hF,h1,h2,h3⟩:=normR_ok ht h0
 rw [h3,h0] at k26
 have hn:NFp p.uses.l l.l (fun _=>True) (normC p l.l t):=nfp_norm g h1 (fun _ _ _=>trivial) false
 have hql:(normP p l.l t).nodes.l.length=(normC p l.l t).size:=by
  show (flat 0 (normC p l.l t)).length=_
  exact flat_len 0 _
 have b1:=beq_avS _ beq_us (normP p l.l t).uses
 have b2:=beq_avS _ beq_rf (normP p l.l t).reveal
 have b3:=beq_avS _ beq_nd (normP p l.l t).nodes
 rcases hn with ⟨b,hb⟩ | hn
 case inr=>
  have h3:=nf_size hn
  have hne:(((normP p l.l t).nodes.l.length:Int)=1)=False:=eq_false (by omega)
  generalize normP p l.l t=q at *
  simp [c8,KL,lendF,k24,k26,hne,aw,q1,q2,q3,b1,b2,b3]
 have hr:=ready_of hF.ready
 have hfd:=fds_ok hr
 have k19:=fun h=>f19 p z l zl t g hF 3 (by omega) h
 rw [show ((3:Nat):Int)=3 from rfl] at k19
 have hnl:(((normP p l.l t).nodes.l.length:Int)=1)=True:=eq_true (by rw [hql,hb];cases b<;>rfl)
 have hll:l.l.length≤1000:=by have:=zl.len;omega
 have hlf:∀ s∈l.l,s.fields.l.length≤1000:=fun s hs=>(zl.sc s hs).len
 have hup:=g.sizes
 cases e:tot 1 (spansP p l.l 3) with
 | none=>
  rw [e] at k19
  simp only at k19
  generalize normP p l.l t=q at *
  simp [c8,KL,lendF,k24,k26,k19,hnl,aw,q1,q2,q3,b1,b2,b3]
 | some T=>
  have hT:0 < T:=by
   rw [tot_some e,Nat.one_mul]
   exact cmb_pos (sp_pos hfd (by omega))
  rw [e] at k19
  simp only at k19
  rw [found_const hT b (fun n=>truth_const ht h0 hb (adm_rows hfd (by omega) n))] at k19
  have hin:=fun (kk:IntKind)=>iaF_sl (av:=Nd.av) (sz:=6) (s:=(normP p l.l t).nodes) (k:=kk) (j:=0) (x:=atomN 0 (if b=true then 0 else 1) 0 0) (by omega) (by
   show (flat 0 (normC p l.l t))[(0:Int).toNat]?=_
   rw [hb]
   cases b<;>rfl) rfl
  have hck:(atomN 0 (if b=true then 0 else 1) 0 0).k=if b=true then 0 else 1:=rfl
  have hqu:(normP p l.l t).uses=p.uses:=rfl
  cases b with
  | false=>
   simp only [Bool.false_eq_true,if_false] at k19 hin hck
   obtain ⟨env,kl,a5,a8,a10⟩:=l8_1_nil p (normP p l.l t) l []
   generalize normP p l.l t=q at *
   generalize atomN 0 1 0 0=w at *
   simp only [List.length_nil] at kl a5
   have qw:=beq_avS _ beq_iV w.kids
   simp [c8,KL,lendF,k24,k26,k19,hnl,hin,hck,kl,a5,a8,a10,qw,aw,q1,q2,q3,b1,b2,b3]
  | true=>
   simp only [if_true] at k19 hin hck
   have hrl:=rowsN_len p l.l 3 0
   obtain ⟨env,kl,a5,a8,a10⟩:=l8_1_ok p (normP p l.l t) l hll hlf (by rw [hqu];omega) (rowsN p l.l 3 0) (by omega) true (fun u r hu=>by
    have:=rows_first hr u r hu
    rw [hqu]
    exact this) []
   generalize normP p l.l t=q at *
   generalize atomN 0 0 0 0=w at *
   have qw:=beq_avS _ beq_iV w.kids
   generalize (rowsN p l.l 3 0).map rowAV=M at *
   simp only [List.length_nil] at kl a5
   simp [c8,KL,lendF,k24,k26,k19,hnl,hin,hck,kl,a5,a8,a10,qw,aw,q1,q2,q3,b1,b2,b3]
end Go.Ab.Pz
