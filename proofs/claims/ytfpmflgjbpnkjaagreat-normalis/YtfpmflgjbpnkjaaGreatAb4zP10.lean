/-
  The nodes of a policy: the reference's visit.
-/
import Derived.Test.YtfpmflgjbpnkjaaGreatAb4zP8
import Derived.Test.YtfpmflgjbpnkjaaGreatAb4zP6
set_option linter.unusedVariables false
set_option linter.unusedSimpArgs false
set_option linter.unusedSectionVars false
namespace Go.Ab.Pz
open Go.Ab.Pol
set_option maxRecDepth 100000
set_option maxHeartbeats 2000000
theorem nodup_le {α:Type} [DecidableEq α]:∀ (s l:List α),s.Nodup→(∀ x∈s,x∈l)→s.length≤l.length
 | [],l,_,_=>Nat.zero_le _
 | a :: s,l,hn,hs=>by
  have h1:=hs a (by simp)
  have hn':=List.nodup_cons.1 hn
  have:=nodup_le s (l.erase a) hn'.2 (fun x hx=>(List.mem_erase_of_ne (fun e=>hn'.1 (by rw [←e];exact hx))).2 (hs x (by simp [hx])))
  rw [List.length_erase_of_mem h1] at this
  have:0 < l.length:=List.length_pos_of_mem h1
  simp only [List.length_cons]
  omega
def In (n:Nat) (seen:List Int):Prop:=seen.Nodup∧∀ x∈seen,0≤x∧x < (n:Int)
theorem In.len {n:Nat} {seen:List Int} (h:In n seen):seen.length≤n:=by
 have:=nodup_le seen ((List.range n).map fun (j:Nat)=>(j:Int)) h.1 (fun x hx=>by
  obtain ⟨h0,h1⟩:=h.2 x hx
  simp only [List.mem_map,List.mem_range]
  exact ⟨x.toNat,by omega,by omega⟩)
 simpa using this
theorem In.snoc {n:Nat} {seen:List Int} {i:Int} (h:In n seen) (h0:0≤i) (h1:i < (n:Int)) (h2:i∉seen):In n (seen++[i]):=by
 refine ⟨?_,?_⟩
 ·rw [List.nodup_append]
  refine ⟨h.1,by simp,?_⟩
  intro a ha b hb e
  simp only [List.mem_singleton] at hb
  subst hb;subst e
  exact h2 ha
 ·intro x hx
  rcases List.mem_append.1 hx with hx | hx
  ·exact h.2 x hx
  ·simp only [List.mem_singleton] at hx
   subst hx
   exact ⟨h0,h1⟩
theorem in_visL {n:Nat} {v:Int→List Int→Int×List Int} (hv:∀ k s,In n s→In n (v k s).2):∀ (ks:List Int) (s:List Int),In n s→In n (visL v ks s).2
 | [],s,h=>h
 | k :: ks,s,h=>by
  simp only [visL]
  split
  ·exact in_visL hv ks _ (hv k s h)
  ·exact hv k s h
theorem in_vis (ns:List Nd):∀ (f:Nat) (i:Int) (c:Bool) (s:List Int),In ns.length s→In ns.length (vis ns f i c s).2
 | 0,i,c,s,h=>by
  simp only [vis]
  split<;>exact h
 | f+1,i,c,s,h=>by
  rw [vis]
  cases hb:badAt ns i s
  case true=>simpa using h
  obtain ⟨b1,b2,b3⟩:=bad_false.1 hb
  have h':=h.snoc b1 b2 b3
  simp only [Bool.false_eq_true,if_false]
  cases ns[i.toNat]? with
  | none=>first | exact h | exact h'
  | some n=>
   simp only
   split
   ·exact in_visL (fun k s hs=>in_vis ns f k _ s hs) _ _ h'
   ·exact h'
def visR (ns:List Nd) (f:Nat) (i:Int) (c:Bool) (st:Int×List Int):Int×List Int:=if st.1=0 then vis ns f i c st.2 else st
theorem in_visR (ns:List Nd) (f:Nat) (i:Int) (c:Bool) (st:Int×List Int) (h:In ns.length st.2):In ns.length (visR ns f i c st).2:=by
 unfold visR
 split
 ·exact in_vis ns f i c _ h
 ·exact h
theorem fold_visR (ns:List Nd) (f:Nat) (c:Bool):∀ (ks:List Int) (st:Int×List Int),ks.foldl (fun st k=>visR ns f k c st) st=if st.1=0 then visL (fun k s=>vis ns f k c s) ks st.2 else st
 | [],(e,s)=>by
  by_cases h:e=0
  ·subst h;simp [visL]
  ·simp [h]
 | k :: ks,(e,s)=>by
  rw [List.foldl_cons,fold_visR ns f c ks]
  by_cases h:e=0
  ·subst h
   simp only [visR,visL,if_true]
  ·simp [visR,h]
theorem iter_fold {α β ρ:Type} (g:β→α→β):∀ (l:List α) (b:β),iter (fun b x=>(.inl (g b x):β ⊕ ρ)) b l=.inl (l.foldl g b)
 | [],b=>rfl
 | x :: l,b=>by rw [iter,List.foldl_cons];exact iter_fold g l (g b x)
theorem formR_E (x:Nd) (c:Bool):formE x c=if x.k < 0∨11 < x.k∨(decide (0≤x.k) && decide (x.k≤8))≠c then 3 else formR x:=by
 unfold formE formR shapeOk
 by_cases h:x.k < 0∨11 < x.k∨(decide (0≤x.k) && decide (x.k≤8))≠c
 ·rw [if_pos h,if_pos]
  by_cases h1:x.k < 0
  ·have:¬ 0≤x.k:=by omega
   simp [this]
  by_cases h2:11 < x.k
  ·have:¬ x.k < 12:=by omega
   simp [this]
  have h3:0≤x.k:=by omega
  simp only [h1,h2,h3,decide_true,Bool.true_and,false_or] at h
  have:(decide (x.k≤8) == c)=false:=by
   cases hd:decide (x.k≤8)<;>cases c<;>simp_all
  simp [this]
 ·rw [if_neg h]
  simp only [not_or] at h
  obtain ⟨h1,h2,h3⟩:=h
  have h4:0≤x.k:=by omega
  have h5:x.k < 12:=by omega
  simp only [h4,decide_true,Bool.true_and,ne_eq,Decidable.not_not] at h3
  simp [h4,h5,h3]
def bools (n:Nat) (seen:List Int):List AV:=(List.range n).map fun (j:Nat)=>.bool (decide ((j:Int)∈seen))
theorem bools_get {n:Nat} {seen:List Int} {i:Int} (h0:0≤i) (h1:i < (n:Int)):(bools n seen)[i.toNat]?=some (.bool (decide (i∈seen))):=by
 have:i.toNat < n:=by omega
 have e:((i.toNat:Nat):Int)=i:=by omega
 simp [bools,this,e]
theorem bools_set {n:Nat} {seen:List Int} {i:Int} (h0:0≤i) (h1:i < (n:Int)):(bools n seen).set i.toNat (.bool true)=bools n (seen++[i]):=by
 apply List.ext_getElem?
 intro j
 unfold bools
 by_cases hj:j < n
 ·by_cases e:i.toNat=j
  ·subst e
   have:((i.toNat:Nat):Int)=i:=by omega
   simp [hj,this]
  ·have e2:¬ (j:Int)=i:=by omega
   simp [e,hj,e2]
 ·have:i.toNat≠j:=by omega
  simp [hj,this]
@[simp] theorem bools_len (n:Nat) (seen:List Int):(bools n seen).length=n:=by simp [bools]
def ordB:List Int→Blk
 | []=>.arr 0 0 false []
 | i :: s=>.arr 3 1 false ((i :: s).map iV)
theorem ordB_at (seen:List Int):∃ t z,ordB seen=.arr t z false (seen.map iV)∧(z=0∨t=3∧z=1):=by
 cases seen with
 | nil=>exact ⟨0,0,rfl,.inl rfl⟩
 | cons i s=>exact ⟨3,1,rfl,.inr ⟨rfl,rfl⟩⟩
theorem ordB_snoc (seen:List Int) (i:Int):ordB (seen++[i])=.arr 3 1 false (seen.map iV++[iV i]):=by
 cases seen with
 | nil=>rfl
 | cons j s=>simp [ordB]
abbrev RFr (p:Po) (st:Int×List Int) (o:Heap):Heap:=
  [.box 26 false p.av, .arr 4 1 false (bools p.nodes.l.length st.2), ordB st.2,
   .box 155 false (.agg (p.cs++[.own (o.length, 1) p.nodes.l.length, .own (o.length, 2) st.2.length, iV st.1]))] :: o
theorem f89 (p:Po) (hp:okP p) (o:Heap):∀ (f:Nat) (i:Int) (c:Bool) (st:Int×List Int) (T:List (List Blk)),f≤32→In p.nodes.l.length st.2 →
  (mu K).fn 89 [.ptr (o.length,3) 0,.int .i64 i,.int .i64 (33 - (f:Int)),.bool c] (T++RFr p st o) =
   some (.val (.tup []) (T++RFr p (visR p.nodes.l f i c st) o))
 | f,i,c,(e,seen),T,hf,hin=>by
  have ne:(o.length=T.length+(o.length+1))=False:=by simp;omega
  rw [fn_go (KX _ _ _) fn89 rfl (by simp [c89])]
  by_cases b0:e=0
  case neg=>
   simp [c89,KL,lendF,visR,b0,ne,hget_deep,hset_deep]
  subst b0
  have e1:visR p.nodes.l f i c (0,seen)=vis p.nodes.l f i c seen:=by simp [visR]
  rw [e1]
  by_cases b1:i < 0
  ·have e:vis p.nodes.l f i c seen=(3,seen):=by
    have:badAt p.nodes.l i seen=true:=by simp [badAt,b1]
    cases f<;>simp [vis,this]
   rw [e]
   simp [c89,KL,lendF,b1,ne,hget_deep,hset_deep]
  by_cases b2:(p.nodes.l.length:Int)≤i
  ·have e:vis p.nodes.l f i c seen=(3,seen):=by
    have:badAt p.nodes.l i seen=true:=by simp [badAt,b2]
    cases f<;>simp [vis,this]
   rw [e]
   simp [c89,KL,lendF,b1,b2,ne,hget_deep,hset_deep]
  have bg:=bools_get (seen:=seen) (n:=p.nodes.l.length) (i:=i) (by omega) (by omega)
  have hr:(0≤i∧i < (p.nodes.l.length:Int))=True:=by simp;omega
  by_cases b3:i∈seen
  ·have e:vis p.nodes.l f i c seen=(3,seen):=by
    have:badAt p.nodes.l i seen=true:=by simp [badAt,b3]
    cases f<;>simp [vis,this]
   rw [e]
   simp [c89,KL,lendF,b1,b2,b3,bg,hr,ne,hget_deep,hset_deep]
  have hb:badAt p.nodes.l i seen=false:=bad_false.2 ⟨by omega,by omega,b3⟩
  cases f with
  | zero=>
   have e:vis p.nodes.l 0 i c seen=(7,seen):=by simp [vis,hb]
   rw [e]
   simp [c89,KL,lendF,b1,b2,b3,bg,hr,ne,hget_deep,hset_deep]
  | succ f=>
   obtain ⟨n,hnd⟩:∃ n,p.nodes.l[i.toNat]?=some n:=⟨_,List.getElem?_eq_getElem (by omega)⟩
   have hmem:n∈p.nodes.l:=List.mem_of_getElem? hnd
   obtain ⟨hok,hkl⟩:=hp.2 n hmem
   have i0:0≤i:=by omega
   have k120:=fun h=>f141 n.k h
   have k121:=fun h=>f142 n hok h
   have bs:=bools_set (seen:=seen) (n:=p.nodes.l.length) (i:=i) (by omega) (by omega)
   have hia:=fun (k:IntKind)=>iaF_sl (av:=Nd.av) (sz:=6) (s:=p.nodes) (k:=k) (j:=i) (x:=n) i0 hnd rfl
   have hd:¬ (32:Int) < 33 - ((f:Int)+1):=by omega
   have hs:seen.length≤p.nodes.l.length:=hin.len
   have hl:=hp.1
   have e0:vis p.nodes.l (f+1) i c seen=if formE n c=0 then visL (fun k s=>vis p.nodes.l f k (decide (n.k≤5)) s) n.kids.l (seen++[i]) else (formE n c,seen++[i]):=by
    rw [vis,hb]
    simp [hnd]
   rw [e0]
   obtain ⟨ot,oz,ho,hz⟩:=ordB_at seen
   have ho2:=ordB_snoc seen i
   have r1:(seen.length+1) * 8≤room:=by unfold room;omega
   have r2:seen.length+1≤room:=by unfold room;omega
   by_cases q1:n.k < 0
   ·have hfe:formE n c=3:=by rw [formR_E,if_pos (by omega)]
    simp [c89,KL,lendF,b1,b2,b3,bg,bs,hr,ne,hget_deep,hset_deep,hd,hia,hfe,q1,ho,ho2,hz,r1,r2]
   by_cases q2:11 < n.k
   ·have hfe:formE n c=3:=by rw [formR_E,if_pos (by omega)]
    simp [c89,KL,lendF,b1,b2,b3,bg,bs,hr,ne,hget_deep,hset_deep,hd,hia,hfe,q1,q2,ho,ho2,hz,r1,r2]
   by_cases q3:(decide (0≤n.k) && decide (n.k≤8))=c
   case neg=>
    have hfe:formE n c=3:=by rw [formR_E,if_pos (.inr (.inr q3))]
    have q3':((decide (0≤n.k) && decide (n.k≤8)) == c)=false:=by simpa using q3
    generalize hq:(decide (0≤n.k) && decide (n.k≤8))=cc at *
    simp [c89,KL,lendF,b1,b2,b3,bg,bs,hr,ne,hget_deep,hset_deep,hd,hia,hfe,q1,q2,q3,q3',k120,ho,ho2,hz,r1,r2]
   have hfe:formE n c=formR n:=by
    rw [formR_E,if_neg]
    rintro (h | h | h)
    ·exact q1 h
    ·exact q2 h
    ·exact h q3
   have q3':((decide (0≤n.k) && decide (n.k≤8)) == c)=true:=by simp [q3]
   rw [hfe]
   generalize hq:(decide (0≤n.k) && decide (n.k≤8))=cc at *
   by_cases hfr:formR n=0
   case neg=>
    rw [if_neg hfr]
    simp [c89,KL,lendF,b1,b2,b3,bg,bs,hr,ne,hget_deep,hset_deep,hd,hia,q1,q2,q3,q3',k120,k121,ho,ho2,hz,r1,r2,hfr]
   rw [if_pos hfr]
   have key:=loop_iter (K:=K) (n:=1) (live:=[0,2,8,10]) (a:=l89_0) (ρ:=Unit) (fun (st:Int×List Int) k=>.inl (visR p.nodes.l f k (decide (n.k≤5)) st))
    (fun pre st=>⟨[(0,.ptr (o.length,3) 0),(2,.int .i64 (33 - ((f:Int)+1))),(8,.ptr (T.length+(o.length+1),0) 0),(10,.int .i64 (pre.length:Int))],[.box 63 false n.av] :: (T++RFr p st o)⟩)
    (fun _ st=>In p.nodes.l.length st.2)
    (fun st r=>∃ env,r=some (.exit 0,⟨env,[.box 63 false n.av] :: (T++RFr p st o)⟩))
    (fun _ _=>False) n.kids.l
    (fun pre x r st hl hi=>by
     obtain ⟨h1,h2,w1⟩:=idx_facts hl (by omega)
     have ih:=f89 p hp o f x (decide (n.k≤5)) st ([.box 63 false n.av] :: T) (by omega) hi
     have hix:=fun (k:IntKind)=>iaF_sl (av:=iV) (sz:=1) (s:=n.kids) (k:=k) (j:=(pre.length:Int)) (x:=x) (by omega) (by simpa using h2) rfl
     have wd:IntKind.i64.wrap (33 - ((f:Int)+1)+1)=33 - (f:Int):=by rw [wrap64 (by omega) (by omega)];omega
     simp only [List.cons_append] at ih
     have hi2:=in_visR p.nodes.l f x (decide (n.k≤5)) st hi
     rw [loop_go]
     generalize (mu K).code (.loopAt 1 [0,2,8,10] l89_0)=F
     clear hl
     generalize visR p.nodes.l f x (decide (n.k≤5)) st=R at *
     simp [l89_0,KL,lendF,h1,hix,w1,wd,ih,ne,hget_deep,hi2])
    (fun st _=>by
     rw [loop_go]
     generalize (mu K).code (.loopAt 1 [0,2,8,10] l89_0)=F
     simp [l89_0]) (0,seen++[i]) (hin.snoc i0 (by omega) b3)
   rw [iter_fold] at key
   obtain ⟨_,env,k⟩:=key
   have fr:=fold_visR p.nodes.l f (decide (n.k≤5)) n.kids.l (0,seen++[i])
   simp only [if_true] at fr
   rw [fr] at k
   generalize visL (fun k s=>vis p.nodes.l f k (decide (n.k≤5)) s) n.kids.l (seen++[i])=R at *
   have eR:RFr p (0,seen++[i]) o=[Blk.box 26 false p.av,Blk.arr 4 1 false (bools p.nodes.l.length (seen++[i])),Blk.arr 3 1 false (List.map iV seen++[AV.int IntKind.i64 i]),
     Blk.box 155 false (AV.agg [AV.str p.name,Sl.avS Us.av p.uses,Sl.avS Rf.av p.reveal,Sl.avS Nd.av p.nodes,iV p.root,
      AV.str p.scope,iV p.limit,AV.str p.escrow,AV.own (List.length o,1) p.nodes.l.length,AV.own (List.length o,2) (seen.length+1),iV 0])] :: o:=by
    simp [ho2]
   rw [eR] at k
   simp only [List.length_nil,Int.natCast_zero] at k
   simp [c89,KL,lendF,b1,b2,b3,bg,bs,hr,ne,hget_deep,hset_deep,hd,hia,q1,q2,q3,q3',k120,k121,ho,ho2,hz,r1,r2,hfr,k]
end Go.Ab.Pz
/-
  The reference's check of a policy.
-/
namespace Go.Ab.Pz
open Go.Ab.Pol
set_option maxRecDepth 100000
set_option maxHeartbeats 2000000
theorem in_nil (n:Nat):In n []:=⟨List.nodup_nil,fun x h=>by simp at h⟩
theorem bools_nil (n:Nat):List.replicate n (AV.bool false)=bools n []:=by
 apply List.ext_getElem?
 intro j
 unfold bools
 by_cases hj:j < n<;>simp [hj,List.getElem?_replicate]
theorem beqs_map {α:Type} (av:α→AV) (h:∀ x,(av x).beq (av x)=true):∀ l:List α,AV.beqs (l.map av) (l.map av)=true
 | []=>by simp [AV.beqs]
 | x :: l=>by simp [AV.beqs,h x,beqs_map av h l]
theorem beq_avS {α:Type} (av:α→AV) (h:∀ x,(av x).beq (av x)=true) (s:Sl α):(s.avS av).beq (s.avS av)=true:=by
 obtain ⟨nl,l⟩:=s
 cases l with
 | nil=>cases nl<;>rfl
 | cons x l=>
  have:=beqs_map av h (x :: l)
  simpa [Sl.avS,AV.beq] using this
theorem beq_iV (n:Int):(iV n).beq (iV n)=true:=by simp [AV.beq]
theorem beq_us:∀ u:Us,u.av.beq u.av=true:=fun u=>by simp [AV.beq,AV.beqs]
theorem beq_rf:∀ u:Rf,u.av.beq u.av=true:=fun u=>by simp [AV.beq,AV.beqs]
theorem beq_nd:∀ u:Nd,u.av.beq u.av=true:=fun u=>by simp [AV.beq,AV.beqs,beq_avS _ beq_iV]
theorem f65 (p:Po) (hp:Sz p) (h:Heap):(mu K).fn 65 [p.av] h=some (.val (.lst ((vis p.nodes.l 32 p.root true []).2.map iV)) h):=by
 have k:=f89 p hp.nodes h 32 p.root true (0,[]) [] (by omega) (in_nil _)
 have e1:(33 - ((32:Nat):Int))=1:=rfl
 rw [e1] at k
 simp only [List.nil_append,visR,if_true] at k
 generalize vis p.nodes.l 32 p.root true []=R at *
 obtain ⟨e,s⟩:=R
 obtain ⟨ot,oz,ho,hz⟩:=ordB_at s
 have hn:=hp.nodes.1
 have r1:p.nodes.l.length * 1≤room:=by unfold room;omega
 have r2:p.nodes.l.length≤room:=by unfold room;omega
 have hbn:=bools_nil p.nodes.l.length
 have o0:ordB []=.arr 0 0 false []:=rfl
 rw [fn_go (KX _ _ _) fn65 rfl (by simp [c65])]
 simp [RFr,o0,ho] at k
 simp [c65,KL,lendF,hbn,r1,r2,k,beq_avS _ beq_us,beq_avS _ beq_rf,beq_avS _ beq_nd]
/- The loops of the check. -/
theorem l25a (p:Po) (hp:Sz p) (b:Bool) (h:Heap):∃ env,(mu K).code (.loopAt 1 [1,3,4] l53_0) ⟨[(1,.ptr (h.length,0) 0),(3,.bool b),(4,.int .i64 0)],[.box 26 false p.av] :: h⟩=some (.exit 0,⟨env,[.box 26 false p.av] :: h⟩) ∧
  get env 1=.ptr (h.length,0) 0∧get env 3=.bool (b && p.uses.l.all fun u=>nameOk u.al && nameOk u.sc):=by
 have key:=loop_iter (K:=K) (n:=1) (live:=[1,3,4]) (a:=l53_0) (fun (b:Bool) (u:Us)=>(.inl (b && (nameOk u.al && nameOk u.sc)):Bool ⊕ Unit))
  (fun pre b=>⟨[(1,.ptr (h.length,0) 0),(3,.bool b),(4,.int .i64 (pre.length:Int))],[.box 26 false p.av] :: h⟩) (fun _ _=>True)
  (fun b o=>∃ env,o=some (.exit 0,⟨env,[.box 26 false p.av] :: h⟩)∧get env 1=.ptr (h.length,0) 0∧get env 3=.bool b) (fun _ _=>False) p.uses.l
  (fun pre x r b hl _=>by
   obtain ⟨h1,h2,w1⟩:=idx_facts hl (by have:=hp.uses.1;omega)
   have hu:=hp.uses.2 x (by rw [hl];simp)
   have k1:=fun h=>f87 x.al hu.1 h
   have k2:=fun h=>f87 x.sc hu.2 h
   have hix:=fun (k:IntKind)=>iaF_sl (av:=Us.av) (sz:=2) (s:=p.uses) (k:=k) (j:=(pre.length:Int)) (x:=x) (by omega) (by simpa using h2) rfl
   rw [loop_go]
   generalize (mu K).code (.loopAt 1 [1,3,4] l53_0)=F
   clear hl
   cases b<;>cases q:nameOk x.al<;>simp [l53_0,KL,lendF,h1,hix,w1,k1,k2,q])
  (fun b _=>by
   rw [loop_go]
   generalize (mu K).code (.loopAt 1 [1,3,4] l53_0)=F
   simp [l53_0]) b trivial
 rw [iter_and] at key
 exact key.2
theorem l25b (p:Po) (hp:Sz p) (b:Bool) (h:Heap):∃ env,(mu K).code (.loopAt 1 [1,3,5] l53_1) ⟨[(1,.ptr (h.length,0) 0),(3,.bool b),(5,.int .i64 0)],[.box 26 false p.av] :: h⟩=some (.exit 2,⟨env,[.box 26 false p.av] :: h⟩) ∧
  get env 1=.ptr (h.length,0) 0∧get env 3=.bool (b && p.reveal.l.all fun u=>nameOk u.al && nameOk u.attr):=by
 have key:=loop_iter (K:=K) (n:=1) (live:=[1,3,5]) (a:=l53_1) (fun (b:Bool) (u:Rf)=>(.inl (b && (nameOk u.al && nameOk u.attr)):Bool ⊕ Unit))
  (fun pre b=>⟨[(1,.ptr (h.length,0) 0),(3,.bool b),(5,.int .i64 (pre.length:Int))],[.box 26 false p.av] :: h⟩) (fun _ _=>True)
  (fun b o=>∃ env,o=some (.exit 2,⟨env,[.box 26 false p.av] :: h⟩)∧get env 1=.ptr (h.length,0) 0∧get env 3=.bool b) (fun _ _=>False) p.reveal.l
  (fun pre x r b hl _=>by
   obtain ⟨h1,h2,w1⟩:=idx_facts hl (by have:=hp.reveal.1;omega)
   have hu:=hp.reveal.2 x (by rw [hl];simp)
   have k1:=fun h=>f87 x.al hu.1 h
   have k2:=fun h=>f87 x.attr hu.2 h
   have hix:=fun (k:IntKind)=>iaF_sl (av:=Rf.av) (sz:=2) (s:=p.reveal) (k:=k) (j:=(pre.length:Int)) (x:=x) (by omega) (by simpa using h2) rfl
   rw [loop_go]
   generalize (mu K).code (.loopAt 1 [1,3,5] l53_1)=F
   clear hl
   cases b<;>cases q:nameOk x.al<;>simp [l53_1,KL,lendF,h1,hix,w1,k1,k2,q])
  (fun b _=>by
   rw [loop_go]
   generalize (mu K).code (.loopAt 1 [1,3,5] l53_1)=F
   simp [l53_1]) b trivial
 rw [iter_and] at key
 exact key.2
theorem iter_dup {α γ:Type} [DecidableEq γ] (g:α→γ):∀ (l b:List α),(b.map g).Nodup→((((b++l).map g).Nodup→iter (fun (b:List α) (x:α)=>if (b.all fun y=>!decide (g x=g y))=true then (.inl (b++[x]):List α ⊕ Unit) else .inr ()) b l=.inl (b++l)) ∧
  (¬ ((b++l).map g).Nodup→iter (fun (b:List α) (x:α)=>if (b.all fun y=>!decide (g x=g y))=true then (.inl (b++[x]):List α ⊕ Unit) else .inr ()) b l=.inr ()))
 | [],b,h=>by simp [iter,h]
 | x :: l,b,h=>by
  by_cases q:g x∈b.map g
  ·have e:(b.all fun y=>!decide (g x=g y))=false:=by
    obtain ⟨y,hy,e⟩:=List.mem_map.1 q
    rw [List.all_eq_false]
    exact ⟨y,hy,by simp [e]⟩
   refine ⟨fun hn=>?_,fun _=>by simp [iter,e]⟩
   rw [List.map_append,List.map_cons,List.nodup_append] at hn
   exact absurd rfl (hn.2.2 _ q (g x) (by simp))
  ·have e:(b.all fun y=>!decide (g x=g y))=true:=by
    rw [List.all_eq_true]
    intro y hy
    have:g x≠g y:=fun e=>q (e▸List.mem_map.2 ⟨y,hy,rfl⟩)
    simp [this]
   have hn:((b++[x]).map g).Nodup:=by
    rw [List.map_append,List.nodup_append]
    refine ⟨h,by simp,?_⟩
    intro a ha c hc e
    simp only [List.map_cons,List.map_nil,List.mem_singleton] at hc
    rw [e,hc] at ha
    exact q ha
   have ih:=iter_dup g l (b++[x]) hn
   simp only [List.append_assoc,List.singleton_append] at ih
   simp only [iter,e,if_true]
   exact ih
theorem l25c (p:Po) (hp:Sz p) (R:List Blk) (h:Heap) (pre:List Us) (x:Us) (r:List Us) (hl:p.uses.l=pre++x :: r) :
  (pre.all (fun y=>!decide (x.al=y.al))=true→∃ env,(mu K).code (.loopAt (R.length+1) [1,7,8] l53_2) ⟨[(1,.ptr (h.length,0) 0),(7,.int .i64 (pre.length:Int)),(8,.int .i64 0)],(.box 26 false p.av :: R) :: h⟩=some (.exit 6,⟨env,(.box 26 false p.av :: R) :: h⟩) ∧
   get env 1=.ptr (h.length,0) 0∧get env 7=.int .i64 (pre.length:Int)) ∧
  (pre.all (fun y=>!decide (x.al=y.al))=false→∃ env,(mu K).code (.loopAt (R.length+1) [1,7,8] l53_2) ⟨[(1,.ptr (h.length,0) 0),(7,.int .i64 (pre.length:Int)),(8,.int .i64 0)],(.box 26 false p.av :: R) :: h⟩=some (.ret,⟨env,(.box 26 false p.av :: R) :: h⟩) ∧
   get env 2=.int .i64 8):=by
 obtain ⟨h1,h2,w1⟩:=idx_facts hl (by have:=hp.uses.1;omega)
 have hix:=fun (k:IntKind)=>iaF_sl (av:=Us.av) (sz:=2) (s:=p.uses) (k:=k) (j:=(pre.length:Int)) (x:=x) (by omega) (by simpa using h2) rfl
 have key:=loop_iter (K:=K) (n:=R.length+1) (live:=[1,7,8]) (a:=l53_2) (fun (_:Unit) (y:Us)=>if (!decide (x.al=y.al))=true then (.inl ():Unit ⊕ Unit) else .inr ())
  (fun pr _=>⟨[(1,.ptr (h.length,0) 0),(7,.int .i64 (pre.length:Int)),(8,.int .i64 (pr.length:Int))],(.box 26 false p.av :: R) :: h⟩) (fun _ _=>True)
  (fun b o=>∃ env,o=some (.exit 6,⟨env,(.box 26 false p.av :: R) :: h⟩)∧get env 1=.ptr (h.length,0) 0∧get env 7=.int .i64 (pre.length:Int))
  (fun _ o=>∃ env,o=some (.ret,⟨env,(.box 26 false p.av :: R) :: h⟩)∧get env 2=.int .i64 8) pre
  (fun pr y rr b hl' _=>by
   have hl2:p.uses.l=pr++y :: (rr++x :: r):=by rw [hl,hl'];simp
   obtain ⟨g1,g2,v1⟩:=idx_facts hl2 (by have:=hp.uses.1;omega)
   have hiy:=fun (k:IntKind)=>iaF_sl (av:=Us.av) (sz:=2) (s:=p.uses) (k:=k) (j:=(pr.length:Int)) (x:=y) (by omega) (by simpa using g2) rfl
   have lt:((pr.length:Int) < (pre.length:Int))=True:=by rw [hl'];simp;omega
   rw [loop_go]
   generalize (mu K).code (.loopAt (R.length+1) [1,7,8] l53_2)=F
   clear hl hl' hl2
   by_cases q:x.al=y.al
   ·have d:(x.al=y.al)=True:=by simp [q]
    simp [l53_2,KL,lendF,hix,hiy,v1,lt,d,beq_avS _ beq_us]
   ·simp [l53_2,KL,lendF,hix,hiy,v1,lt,q,beq_avS _ beq_us])
  (fun b _=>by
   rw [loop_go]
   generalize (mu K).code (.loopAt (R.length+1) [1,7,8] l53_2)=F
   simp [l53_2]) () trivial
 simp only [List.length_nil,Int.natCast_zero] at key
 refine ⟨fun q=>?_,fun q=>?_⟩
 ·rw [(iter_all (fun y:Us=>!decide (x.al=y.al)) pre).1 q] at key
  exact key.2
 ·rw [(iter_all (fun y:Us=>!decide (x.al=y.al)) pre).2 q] at key
  exact key
theorem l25d (p:Po) (hp:Sz p) (R:List Blk) (h:Heap) :
  ((p.uses.l.map Us.al).Nodup→∃ env,(mu K).code (.loopAt (R.length+1) [1,7] l53_3) ⟨[(1,.ptr (h.length,0) 0),(7,.int .i64 0)],(.box 26 false p.av :: R) :: h⟩=some (.exit 4,⟨env,(.box 26 false p.av :: R) :: h⟩)∧get env 1=.ptr (h.length,0) 0) ∧
  (¬ (p.uses.l.map Us.al).Nodup→∃ env,(mu K).code (.loopAt (R.length+1) [1,7] l53_3) ⟨[(1,.ptr (h.length,0) 0),(7,.int .i64 0)],(.box 26 false p.av :: R) :: h⟩=some (.ret,⟨env,(.box 26 false p.av :: R) :: h⟩)∧get env 2=.int .i64 8):=by
 have key:=loop_iter (K:=K) (n:=R.length+1) (live:=[1,7]) (a:=l53_3) (fun (b:List Us) (x:Us)=>if (b.all fun y=>!decide (Us.al x=Us.al y))=true then (.inl (b++[x]):List Us ⊕ Unit) else .inr ())
  (fun pre _=>⟨[(1,.ptr (h.length,0) 0),(7,.int .i64 (pre.length:Int))],(.box 26 false p.av :: R) :: h⟩) (fun pre b=>b=pre)
  (fun b o=>∃ env,o=some (.exit 4,⟨env,(.box 26 false p.av :: R) :: h⟩)∧get env 1=.ptr (h.length,0) 0)
  (fun _ o=>∃ env,o=some (.ret,⟨env,(.box 26 false p.av :: R) :: h⟩)∧get env 2=.int .i64 8) p.uses.l
  (fun pre x r b hl hb=>by
   subst hb
   obtain ⟨h1,h2,w1⟩:=idx_facts hl (by have:=hp.uses.1;omega)
   have kc:=l25c p hp R h b x r hl
   rw [loop_go]
   generalize (mu K).code (.loopAt (R.length+1) [1,7] l53_3)=F
   clear hl
   cases q:b.all (fun y=>!decide (x.al=y.al))
   ·rw [q] at kc
    obtain ⟨env,e1,e2⟩:=kc.2 rfl
    simp [l53_3,KL,lendF,h1,w1,e1,e2]
   ·rw [q] at kc
    obtain ⟨env,e1,e2,e3⟩:=kc.1 rfl
    simp [l53_3,KL,lendF,h1,w1,e1,e2,e3])
  (fun b _=>by
   rw [loop_go]
   generalize (mu K).code (.loopAt (R.length+1) [1,7] l53_3)=F
   simp [l53_3]) [] rfl
 simp only [List.length_nil,Int.natCast_zero] at key
 obtain ⟨d1,d2⟩:=iter_dup Us.al p.uses.l [] (by simp)
 simp only [List.nil_append] at d1 d2
 refine ⟨fun q=>?_,fun q=>?_⟩
 ·rw [d1 q] at key
  exact key.2
 ·rw [d2 q] at key
  exact key
theorem l25e (p:Po) (hp:Sz p) (R:List Blk) (h:Heap) (pre:List Rf) (x:Rf) (r:List Rf) (hl:p.reveal.l=pre++x :: r) :
  (pre.all (fun y=>!decide (x=y))=true→∃ env,(mu K).code (.loopAt (R.length+1) [1,9,10] l53_4) ⟨[(1,.ptr (h.length,0) 0),(9,.int .i64 (pre.length:Int)),(10,.int .i64 0)],(.box 26 false p.av :: R) :: h⟩=some (.exit 10,⟨env,(.box 26 false p.av :: R) :: h⟩) ∧
   get env 1=.ptr (h.length,0) 0∧get env 9=.int .i64 (pre.length:Int)) ∧
  (pre.all (fun y=>!decide (x=y))=false→∃ env,(mu K).code (.loopAt (R.length+1) [1,9,10] l53_4) ⟨[(1,.ptr (h.length,0) 0),(9,.int .i64 (pre.length:Int)),(10,.int .i64 0)],(.box 26 false p.av :: R) :: h⟩=some (.ret,⟨env,(.box 26 false p.av :: R) :: h⟩) ∧
   get env 2=.int .i64 8):=by
 obtain ⟨h1,h2,w1⟩:=idx_facts hl (by have:=hp.reveal.1;omega)
 have hix:=fun (k:IntKind)=>iaF_sl (av:=Rf.av) (sz:=2) (s:=p.reveal) (k:=k) (j:=(pre.length:Int)) (x:=x) (by omega) (by simpa using h2) rfl
 have key:=loop_iter (K:=K) (n:=R.length+1) (live:=[1,9,10]) (a:=l53_4) (fun (_:Unit) (y:Rf)=>if (!decide (x=y))=true then (.inl ():Unit ⊕ Unit) else .inr ())
  (fun pr _=>⟨[(1,.ptr (h.length,0) 0),(9,.int .i64 (pre.length:Int)),(10,.int .i64 (pr.length:Int))],(.box 26 false p.av :: R) :: h⟩) (fun _ _=>True)
  (fun b o=>∃ env,o=some (.exit 10,⟨env,(.box 26 false p.av :: R) :: h⟩)∧get env 1=.ptr (h.length,0) 0∧get env 9=.int .i64 (pre.length:Int))
  (fun _ o=>∃ env,o=some (.ret,⟨env,(.box 26 false p.av :: R) :: h⟩)∧get env 2=.int .i64 8) pre
  (fun pr y rr b hl' _=>by
   have hl2:p.reveal.l=pr++y :: (rr++x :: r):=by rw [hl,hl'];simp
   obtain ⟨g1,g2,v1⟩:=idx_facts hl2 (by have:=hp.reveal.1;omega)
   have hiy:=fun (k:IntKind)=>iaF_sl (av:=Rf.av) (sz:=2) (s:=p.reveal) (k:=k) (j:=(pr.length:Int)) (x:=y) (by omega) (by simpa using g2) rfl
   have lt:((pr.length:Int) < (pre.length:Int))=True:=by rw [hl'];simp;omega
   rw [loop_go]
   generalize (mu K).code (.loopAt (R.length+1) [1,9,10] l53_4)=F
   clear hl hl' hl2
   have ex:eqFs [FK.str,FK.str] x.cs y.cs=some (decide (x=y)):=by
    obtain ⟨a,b⟩:=x
    obtain ⟨a',b'⟩:=y
    by_cases e1:a=a'<;>by_cases e2:b=b'<;>simp [eqFs,eqF,e1,e2]
   by_cases q:x=y
   ·have d:(x=y)=True:=by simp [q]
    simp [l53_4,KL,lendF,hix,hiy,v1,lt,ex,d,beq_avS _ beq_rf]
   ·simp [l53_4,KL,lendF,hix,hiy,v1,lt,ex,q,beq_avS _ beq_rf])
  (fun b _=>by
   rw [loop_go]
   generalize (mu K).code (.loopAt (R.length+1) [1,9,10] l53_4)=F
   simp [l53_4]) () trivial
 simp only [List.length_nil,Int.natCast_zero] at key
 refine ⟨fun q=>?_,fun q=>?_⟩
 ·rw [(iter_all (fun y:Rf=>!decide (x=y)) pre).1 q] at key
  exact key.2
 ·rw [(iter_all (fun y:Rf=>!decide (x=y)) pre).2 q] at key
  exact key
theorem l25f (p:Po) (hp:Sz p) (R:List Blk) (h:Heap) :
  (p.reveal.l.Nodup→∃ env,(mu K).code (.loopAt (R.length+1) [1,9] l53_5) ⟨[(1,.ptr (h.length,0) 0),(9,.int .i64 0)],(.box 26 false p.av :: R) :: h⟩=some (.exit 8,⟨env,(.box 26 false p.av :: R) :: h⟩)∧get env 1=.ptr (h.length,0) 0) ∧
  (¬ p.reveal.l.Nodup→∃ env,(mu K).code (.loopAt (R.length+1) [1,9] l53_5) ⟨[(1,.ptr (h.length,0) 0),(9,.int .i64 0)],(.box 26 false p.av :: R) :: h⟩=some (.ret,⟨env,(.box 26 false p.av :: R) :: h⟩)∧get env 2=.int .i64 8):=by
 have key:=loop_iter (K:=K) (n:=R.length+1) (live:=[1,9]) (a:=l53_5) (fun (b:List Rf) (x:Rf)=>if (b.all fun y=>!decide (id x=id y))=true then (.inl (b++[x]):List Rf ⊕ Unit) else .inr ())
  (fun pre _=>⟨[(1,.ptr (h.length,0) 0),(9,.int .i64 (pre.length:Int))],(.box 26 false p.av :: R) :: h⟩) (fun pre b=>b=pre)
  (fun b o=>∃ env,o=some (.exit 8,⟨env,(.box 26 false p.av :: R) :: h⟩)∧get env 1=.ptr (h.length,0) 0)
  (fun _ o=>∃ env,o=some (.ret,⟨env,(.box 26 false p.av :: R) :: h⟩)∧get env 2=.int .i64 8) p.reveal.l
  (fun pre x r b hl hb=>by
   subst hb
   obtain ⟨h1,h2,w1⟩:=idx_facts hl (by have:=hp.reveal.1;omega)
   have kc:=l25e p hp R h b x r hl
   rw [loop_go]
   generalize (mu K).code (.loopAt (R.length+1) [1,9] l53_5)=F
   clear hl
   cases q:b.all (fun y=>!decide (x=y))
   ·have q':(b.all fun y=>!decide (id x=id y))=false:=q
    simp only [q']
    rw [q] at kc
    obtain ⟨env,e1,e2⟩:=kc.2 rfl
    simp [l53_5,KL,lendF,h1,w1,e1,e2]
   ·have q':(b.all fun y=>!decide (id x=id y))=true:=q
    simp only [q']
    rw [q] at kc
    obtain ⟨env,e1,e2,e3⟩:=kc.1 rfl
    simp [l53_5,KL,lendF,h1,w1,e1,e2,e3])
  (fun b _=>by
   rw [loop_go]
   generalize (mu K).code (.loopAt (R.length+1) [1,9] l53_5)=F
   simp [l53_5]) [] rfl
 simp only [List.length_nil,Int.natCast_zero] at key
 obtain ⟨d1,d2⟩:=iter_dup id p.reveal.l [] (by simp)
 simp only [List.nil_append,List.map_id] at d1 d2
 refine ⟨fun q=>?_,fun q=>?_⟩
 ·rw [d1 q] at key
  exact key.2
 ·rw [d2 q] at key
  exact key
theorem l25g (p:Po) (hp:Sz p) (R:List Blk) (h:Heap) :
  (p.reveal.l.all (fun r=>used p r.al)=true→∃ env,(mu K).code (.loopAt (R.length+1) [1,11] l53_6) ⟨[(1,.ptr (h.length,0) 0),(11,.int .i64 0)],(.box 26 false p.av :: R) :: h⟩=some (.exit 12,⟨env,(.box 26 false p.av :: R) :: h⟩)∧get env 1=.ptr (h.length,0) 0) ∧
  (p.reveal.l.all (fun r=>used p r.al)=false→∃ env,(mu K).code (.loopAt (R.length+1) [1,11] l53_6) ⟨[(1,.ptr (h.length,0) 0),(11,.int .i64 0)],(.box 26 false p.av :: R) :: h⟩=some (.ret,⟨env,(.box 26 false p.av :: R) :: h⟩)∧get env 2=.int .i64 9):=by
 have key:=loop_iter (K:=K) (n:=R.length+1) (live:=[1,11]) (a:=l53_6) (fun (_:Unit) (x:Rf)=>if used p x.al=true then (.inl ():Unit ⊕ Unit) else .inr ())
  (fun pre _=>⟨[(1,.ptr (h.length,0) 0),(11,.int .i64 (pre.length:Int))],(.box 26 false p.av :: R) :: h⟩) (fun _ _=>True)
  (fun b o=>∃ env,o=some (.exit 12,⟨env,(.box 26 false p.av :: R) :: h⟩)∧get env 1=.ptr (h.length,0) 0)
  (fun _ o=>∃ env,o=some (.ret,⟨env,(.box 26 false p.av :: R) :: h⟩)∧get env 2=.int .i64 9) p.reveal.l
  (fun pre x r b hl _=>by
   obtain ⟨h1,h2,w1⟩:=idx_facts hl (by have:=hp.reveal.1;omega)
   have hix:=fun (k:IntKind)=>iaF_sl (av:=Rf.av) (sz:=2) (s:=p.reveal) (k:=k) (j:=(pre.length:Int)) (x:=x) (by omega) (by simpa using h2) rfl
   have k1:=fun h=>f90 p hp x.al h
   rw [loop_go]
   generalize (mu K).code (.loopAt (R.length+1) [1,11] l53_6)=F
   clear hl
   cases q:used p x.al<;>simp [l53_6,KL,lendF,h1,hix,w1,k1,q,beq_avS _ beq_us,beq_avS _ beq_rf,beq_avS _ beq_nd])
  (fun b _=>by
   rw [loop_go]
   generalize (mu K).code (.loopAt (R.length+1) [1,11] l53_6)=F
   simp [l53_6]) () trivial
 simp only [List.length_nil,Int.natCast_zero] at key
 refine ⟨fun q=>?_,fun q=>?_⟩
 ·rw [(iter_all (fun x:Rf=>used p x.al) p.reveal.l).1 q] at key
  exact key.2
 ·rw [(iter_all (fun x:Rf=>used p x.al) p.reveal.l).2 q] at key
  exact key
theorem l25h (p:Po) (hp:Sz p) (R:List Blk) (h:Heap) :
  (p.nodes.l.all (fun n=>!(decide (n.k=9)) || used p n.nm)=true→∃ env,(mu K).code (.loopAt (R.length+1) [1,12] l53_7) ⟨[(1,.ptr (h.length,0) 0),(12,.int .i64 0)],(.box 26 false p.av :: R) :: h⟩=some (.exit 14,⟨env,(.box 26 false p.av :: R) :: h⟩)) ∧
  (p.nodes.l.all (fun n=>!(decide (n.k=9)) || used p n.nm)=false→∃ env,(mu K).code (.loopAt (R.length+1) [1,12] l53_7) ⟨[(1,.ptr (h.length,0) 0),(12,.int .i64 0)],(.box 26 false p.av :: R) :: h⟩=some (.ret,⟨env,(.box 26 false p.av :: R) :: h⟩)∧get env 2=.int .i64 9):=by
 have key:=loop_iter (K:=K) (n:=R.length+1) (live:=[1,12]) (a:=l53_7) (fun (_:Unit) (x:Nd)=>if (!(decide (x.k=9)) || used p x.nm)=true then (.inl ():Unit ⊕ Unit) else .inr ())
  (fun pre _=>⟨[(1,.ptr (h.length,0) 0),(12,.int .i64 (pre.length:Int))],(.box 26 false p.av :: R) :: h⟩) (fun _ _=>True)
  (fun b o=>∃ env,o=some (.exit 14,⟨env,(.box 26 false p.av :: R) :: h⟩))
  (fun _ o=>∃ env,o=some (.ret,⟨env,(.box 26 false p.av :: R) :: h⟩)∧get env 2=.int .i64 9) p.nodes.l
  (fun pre x r b hl _=>by
   obtain ⟨h1,h2,w1⟩:=idx_facts hl (by have:=hp.nodes.1;omega)
   have hix:=fun (k:IntKind)=>iaF_sl (av:=Nd.av) (sz:=6) (s:=p.nodes) (k:=k) (j:=(pre.length:Int)) (x:=x) (by omega) (by simpa using h2) rfl
   have k1:=fun h=>f90 p hp x.nm h
   rw [loop_go]
   generalize (mu K).code (.loopAt (R.length+1) [1,12] l53_7)=F
   clear hl
   by_cases hk:x.k=9
   ·have d:(x.k=9)=True:=by simp [hk]
    cases q:used p x.nm<;>simp [l53_7,KL,lendF,h1,hix,w1,k1,d,q,beq_avS _ beq_us,beq_avS _ beq_rf,beq_avS _ beq_nd]
   ·simp [l53_7,KL,lendF,h1,hix,w1,k1,hk,beq_avS _ beq_us,beq_avS _ beq_rf,beq_avS _ beq_nd])
  (fun b _=>by
   rw [loop_go]
   generalize (mu K).code (.loopAt (R.length+1) [1,12] l53_7)=F
   simp [l53_7]) () trivial
 simp only [List.length_nil,Int.natCast_zero] at key
 refine ⟨fun q=>?_,fun q=>?_⟩
 ·rw [(iter_all (fun n:Nd=>!(decide (n.k=9)) || used p n.nm) p.nodes.l).1 q] at key
  exact key.2
 ·rw [(iter_all (fun n:Nd=>!(decide (n.k=9)) || used p n.nm) p.nodes.l).2 q] at key
  exact key
end Go.Ab.Pz
