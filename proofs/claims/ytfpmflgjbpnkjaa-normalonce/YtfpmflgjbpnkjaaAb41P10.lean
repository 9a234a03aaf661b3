/-
  The nodes of a policy: the reference's visit.
-/
import Derived.Test.YtfpmflgjbpnkjaaAb41P8
import Derived.Test.YtfpmflgjbpnkjaaAb41P6
set_option linter.unusedVariables false
set_option linter.unusedSimpArgs false
set_option linter.unusedSectionVars false
namespace Go.Ab.Pl
open Go.Ab.Pol
set_option maxRecDepth 100000
set_option maxHeartbeats 2000000
theorem nodup_le {α:Type} [DecidableEq α]:∀ (s l:List α),s.Nodup→(∀ x∈s,x∈l)→s.length≤l.length
 | [],l,_,_=>Nat.zero_le _
 | a :: s,l,hn,hs=>by
  have h1:=hs a (by simp)
  have hn':=List.nodup_cons.1 hn
  have:=nodup_le s (l.erase a) hn'.2 (fun x hx=>(List.mem_erase_of_ne (fun e=>hn'.1 (by rw [←e];exact hx))).2 (hs x (by simp [hx])))
  rw [List.length_erase_of_mem h1] at this
  have:0 < l.length:=List.length_pos_of_mem h1
  simp only [List.length_cons]
  omega
def In (n:Nat) (seen:List Int):Prop:=seen.Nodup∧∀ x∈seen,0≤x∧x < (n:Int)
theorem In.len {n:Nat} {seen:List Int} (h:In n seen):seen.length≤n:=by
 have:=nodup_le seen ((List.range n).map fun (j:Nat)=>(j:Int)) h.1 (fun x hx=>by
  obtain ⟨h0,h1⟩:=h.2 x hx
  simp only [List.mem_map,List.mem_range]
  exact ⟨x.toNat,by omega,by omega⟩)
 simpa using this
theorem In.snoc {n:Nat} {seen:List Int} {i:Int} (h:In n seen) (h0:0≤i) (h1:i < (n:Int)) (h2:i∉seen):In n (seen++[i]):=by
 refine ⟨?_,?_⟩
 ·rw [List.nodup_append]
  refine ⟨h.1,by simp,?_⟩
  intro a ha b hb e
  simp only [List.mem_singleton] at hb
  subst hb;subst e
  exact h2 ha
 ·intro x hx
  rcases List.mem_append.1 hx with hx | hx
  ·exact h.2 x hx
  ·simp only [List.mem_singleton] at hx
   subst hx
   exact ⟨h0,h1⟩
theorem in_visL {n:Nat} {v:Int→List Int→Int×List Int} (hv:∀ k s,In n s→In n (v k s).2):∀ (ks:List Int) (s:List Int),In n s→In n (visL v ks s).2
 | [],s,h=>h
 | k :: ks,s,h=>by
  simp only [visL]
  split
  ·exact in_visL hv ks _ (hv k s h)
  ·exact hv k s h
theorem in_vis (ns:List Nd):∀ (f:Nat) (i:Int) (c:Bool) (s:List Int),In ns.length s→In ns.length (vis ns f i c s).2
 | 0,i,c,s,h=>by
  simp only [vis]
  split<;>exact h
 | f+1,i,c,s,h=>by
  rw [vis]
  cases hb:badAt ns i s
  case true=>simpa using h
  obtain ⟨b1,b2,b3⟩:=bad_false.1 hb
  have h':=h.snoc b1 b2 b3
  simp only [Bool.false_eq_true,if_false]
  cases ns[i.toNat]? with
  | none=>first | exact h | exact h'
  | some n=>
   simp only
   split
   ·exact in_visL (fun k s hs=>in_vis ns f k _ s hs) _ _ h'
   ·exact h'
def visR (ns:List Nd) (f:Nat) (i:Int) (c:Bool) (st:Int×List Int):Int×List Int:=if st.1=0 then vis ns f i c st.2 else st
theorem in_visR (ns:List Nd) (f:Nat) (i:Int) (c:Bool) (st:Int×List Int) (h:In ns.length st.2):In ns.length (visR ns f i c st).2:=by
 unfold visR
 split
 ·exact in_vis ns f i c _ h
 ·exact h
theorem fold_visR (ns:List Nd) (f:Nat) (c:Bool):∀ (ks:List Int) (st:Int×List Int),ks.foldl (fun st k=>visR ns f k c st) st=if st.1=0 then visL (fun k s=>vis ns f k c s) ks st.2 else st
 | [],(e,s)=>by
  by_cases h:e=0
  ·subst h;simp [visL]
  ·simp [h]
 | k :: ks,(e,s)=>by
  rw [List.foldl_cons,fold_visR ns f c ks]
  by_cases h:e=0
  ·subst h
   simp only [visR,visL,if_true]
  ·simp [visR,h]
theorem iter_fold {α β ρ:Type} (g:β→α→β):∀ (l:List α) (b:β),iter (fun b x=>(.inl (g b x):β ⊕ ρ)) b l=.inl (l.foldl g b)
 | [],b=>rfl
 | x :: l,b=>by rw [iter,List.foldl_cons];exact iter_fold g l (g b x)
theorem formR_E (x:Nd) (c:Bool):formE x c=if x.k < 0∨11 < x.k∨(decide (0≤x.k) && decide (x.k≤8))≠c then 3 else formR x:=by
 unfold formE formR shapeOk
 by_cases h:x.k < 0∨11 < x.k∨(decide (0≤x.k) && decide (x.k≤8))≠c
 ·rw [if_pos h,if_pos]
  by_cases h1:x.k < 0
  ·have:¬ 0≤x.k:=by omega
   simp [this]
  by_cases h2:11 < x.k
  ·have:¬ x.k < 12:=by omega
   simp [this]
  have h3:0≤x.k:=by omega
  simp only [h1,h2,h3,decide_true,Bool.true_and,false_or] at h
  have:(decide (x.k≤8) == c)=false:=by
   cases hd:decide (x.k≤8)<;>cases c<;>simp_all
  simp [this]
 ·rw [if_neg h]
  simp only [not_or] at h
  obtain ⟨h1,h2,h3⟩:=h
  have h4:0≤x.k:=by omega
  have h5:x.k < 12:=by omega
  simp only [h4,decide_true,Bool.true_and,ne_eq,Decidable.not_not] at h3
  simp [h4,h5,h3]
def bools (n:Nat) (seen:List Int):List AV:=(List.range n).map fun (j:Nat)=>.bool (decide ((j:Int)∈seen))
theorem bools_get {n:Nat} {seen:List Int} {i:Int} (h0:0≤i) (h1:i < (n:Int)):(bools n seen)[i.toNat]?=some (.bool (decide (i∈seen))):=by
 have:i.toNat < n:=by omega
 have e:((i.toNat:Nat):Int)=i:=by omega
 simp [bools,this,e]
theorem bools_set {n:Nat} {seen:List Int} {i:Int} (h0:0≤i) (h1:i < (n:Int)):(bools n seen).set i.toNat (.bool true)=bools n (seen++[i]):=by
 apply List.ext_getElem?
 intro j
 unfold bools
 by_cases hj:j < n
 ·by_cases e:i.toNat=j
  ·subst e
   have:((i.toNat:Nat):Int)=i:=by omega
   simp [hj,this]
  ·have e2:¬ (j:Int)=i:=by omega
   simp [e,hj,e2]
 ·have:i.toNat≠j:=by omega
  simp [hj,this]
@[simp] theorem bools_len (n:Nat) (seen:List Int):(bools n seen).length=n:=by simp [bools]
def ordB:List Int→Blk
 | []=>.arr 0 0 false []
 | i :: s=>.arr 3 1 false ((i :: s).map iV)
theorem ordB_at (seen:List Int):∃ t z,ordB seen=.arr t z false (seen.map iV)∧(z=0∨t=3∧z=1):=by
 cases seen with
 | nil=>exact ⟨0,0,rfl,.inl rfl⟩
 | cons i s=>exact ⟨3,1,rfl,.inr ⟨rfl,rfl⟩⟩
theorem ordB_snoc (seen:List Int) (i:Int):ordB (seen++[i])=.arr 3 1 false (seen.map iV++[iV i]):=by
 cases seen with
 | nil=>rfl
 | cons j s=>simp [ordB]
abbrev RFr (p:Po) (st:Int×List Int) (o:Heap):Heap:=
  [.box 26 false p.av, .arr 4 1 false (bools p.nodes.l.length st.2), ordB st.2,
   .box 105 false (.agg (p.cs++[.own (o.length, 1) p.nodes.l.length, .own (o.length, 2) st.2.length, iV st.1]))] :: o
theorem f72 (p:Po) (hp:okP p) (o:Heap):∀ (f:Nat) (i:Int) (c:Bool) (st:Int×List Int) (T:List (List Blk)),f≤32→In p.nodes.l.length st.2 →
  (mu K).fn 72 [.ptr (o.length,3) 0,.int .i64 i,.int .i64 (33 - (f:Int)),.bool c] (T++RFr p st o) =
   some (.val (.tup []) (T++RFr p (visR p.nodes.l f i c st) o))
 | f,i,c,(e,seen),T,hf,hin=>by
  have ne:(o.length=T.length+(o.length+1))=False:=by simp;omega
  rw [fn_go (KX _ _ _) fn72 rfl (by simp [c72])]
  by_cases b0:e=0
  case neg=>
   simp [c72,KL,lendF,visR,b0,ne,hget_deep,hset_deep]
  subst b0
  have e1:visR p.nodes.l f i c (0,seen)=vis p.nodes.l f i c seen:=by simp [visR]
  rw [e1]
  by_cases b1:i < 0
  ·have e:vis p.nodes.l f i c seen=(3,seen):=by
    have:badAt p.nodes.l i seen=true:=by simp [badAt,b1]
    cases f<;>simp [vis,this]
   rw [e]
   simp [c72,KL,lendF,b1,ne,hget_deep,hset_deep]
  by_cases b2:(p.nodes.l.length:Int)≤i
  ·have e:vis p.nodes.l f i c seen=(3,seen):=by
    have:badAt p.nodes.l i seen=true:=by simp [badAt,b2]
    cases f<;>simp [vis,this]
   rw [e]
   simp [c72,KL,lendF,b1,b2,ne,hget_deep,hset_deep]
  have bg:=bools_get (seen:=seen) (n:=p.nodes.l.length) (i:=i) (by omega) (by omega)
  have hr:(0≤i∧i < (p.nodes.l.length:Int))=True:=by simp;omega
  by_cases b3:i∈seen
  ·have e:vis p.nodes.l f i c seen=(3,seen):=by
    have:badAt p.nodes.l i seen=true:=by simp [badAt,b3]
    cases f<;>simp [vis,this]
   rw [e]
   simp [c72,KL,lendF,b1,b2,b3,bg,hr,ne,hget_deep,hset_deep]
  have hb:badAt p.nodes.l i seen=false:=bad_false.2 ⟨by omega,by omega,b3⟩
  cases f with
  | zero=>
   have e:vis p.nodes.l 0 i c seen=(7,seen):=by simp [vis,hb]
   rw [e]
   simp [c72,KL,lendF,b1,b2,b3,bg,hr,ne,hget_deep,hset_deep]
  | succ f=>
   obtain ⟨n,hnd⟩:∃ n,p.nodes.l[i.toNat]?=some n:=⟨_,List.getElem?_eq_getElem (by omega)⟩
   have hmem:n∈p.nodes.l:=List.mem_of_getElem? hnd
   obtain ⟨hok,hkl⟩:=hp.2 n hmem
   have i0:0≤i:=by omega
   have k120:=fun h=>f120 n.k h
   have k121:=fun h=>f121 n hok h
   have bs:=bools_set (seen:=seen) (n:=p.nodes.l.length) (i:=i) (by omega) (by omega)
   have hia:=fun (k:IntKind)=>iaF_sl (av:=Nd.av) (sz:=6) (s:=p.nodes) (k:=k) (j:=i) (x:=n) i0 hnd rfl
   have hd:¬ (32:Int) < 33 - ((f:Int)+1):=by omega
   have hs:seen.length≤p.nodes.l.length:=hin.len
   have hl:=hp.1
   have e0:vis p.nodes.l (f+1) i c seen=if formE n c=0 then visL (fun k s=>vis p.nodes.l f k (decide (n.k≤5)) s) n.kids.l (seen++[i]) else (formE n c,seen++[i]):=by
    rw [vis,hb]
    simp [hnd]
   rw [e0]
   obtain ⟨ot,oz,ho,hz⟩:=ordB_at seen
   have ho2:=ordB_snoc seen i
   have r1:(seen.length+1) * 8≤room:=by unfold room;omega
   have r2:seen.length+1≤room:=by unfold room;omega
   by_cases q1:n.k < 0
   ·have hfe:formE n c=3:=by rw [formR_E,if_pos (by omega)]
    simp [c72,KL,lendF,b1,b2,b3,bg,bs,hr,ne,hget_deep,hset_deep,hd,hia,hfe,q1,ho,ho2,hz,r1,r2]
   by_cases q2:11 < n.k
   ·have hfe:formE n c=3:=by rw [formR_E,if_pos (by omega)]
    simp [c72,KL,lendF,b1,b2,b3,bg,bs,hr,ne,hget_deep,hset_deep,hd,hia,hfe,q1,q2,ho,ho2,hz,r1,r2]
   by_cases q3:(decide (0≤n.k) && decide (n.k≤8))=c
   case neg=>
    have hfe:formE n c=3:=by rw [formR_E,if_pos (.inr (.inr q3))]
    have q3':((decide (0≤n.k) && decide (n.k≤8)) == c)=false:=by simpa using q3
    generalize hq:(decide (0≤n.k) && decide (n.k≤8))=cc at *
    simp [c72,KL,lendF,b1,b2,b3,bg,bs,hr,ne,hget_deep,hset_deep,hd,hia,hfe,q1,q2,q3,q3',k120,ho,ho2,hz,r1,r2]
   have hfe:formE n c=formR n:=by
    rw [formR_E,if_neg]
    rintro (h | h | h)
    ·exact q1 h
    ·exact q2 h
    ·exact h q3
   have q3':((decide (0≤n.k) && decide (n.k≤8)) == c)=true:=by simp [q3]
   rw [hfe]
   generalize hq:(decide (0≤n.k) && decide (n.k≤8))=cc at *
   by_cases hfr:formR n=0
   case neg=>
    rw [if_neg hfr]
    simp [c72,KL,lendF,b1,b2,b3,bg,bs,hr,ne,hget_deep,hset_deep,hd,hia,q1,q2,q3,q3',k120,k121,ho,ho2,hz,r1,r2,hfr]
   rw [if_pos hfr]
   have key:=loop_iter (K:=K) (n:=1) (live:=[0,2,8,10]) (a:=l72_0) (ρ:=Unit) (fun (st:Int×List Int) k=>.inl (visR p.nodes.l f k (decide (n.k≤5)) st))
    (fun pre st=>⟨[(0,.ptr (o.length,3) 0),(2,.int .i64 (33 - ((f:Int)+1))),(8,.ptr (T.length+(o.length+1),0) 0),(10,.int .i64 (pre.length:Int))],[.box 45 false n.av] :: (T++RFr p st o)⟩)
    (fun _ st=>In p.nodes.l.length st.2)
    (fun st r=>∃ env,r=some (.exit 0,⟨env,[.box 45 false n.av] :: (T++RFr p st o)⟩))
    (fun _ _=>False) n.kids.l
    (fun pre x r st hl hi=>by
     obtain ⟨h1,h2,w1⟩:=idx_facts hl (by omega)
     have ih:=f72 p hp o f x (decide (n.k≤5)) st ([.box 45 false n.av] :: T) (by omega) hi
     have hix:=fun (k:IntKind)=>iaF_sl (av:=iV) (sz:=1) (s:=n.kids) (k:=k) (j:=(pre.length:Int)) (x:=x) (by omega) (by simpa using h2) rfl
     have wd:IntKind.i64.wrap (33 - ((f:Int)+1)+1)=33 - (f:Int):=by rw [wrap64 (by omega) (by omega)];omega
     simp only [List.cons_append] at ih
     have hi2:=in_visR p.nodes.l f x (decide (n.k≤5)) st hi
     rw [loop_go]
     generalize (mu K).code (.loopAt 1 [0,2,8,10] l72_0)=F
     clear hl
     generalize visR p.nodes.l f x (decide (n.k≤5)) st=R at *
     simp [l72_0,KL,lendF,h1,hix,w1,wd,ih,ne,hget_deep,hi2])
    (fun st _=>by
     rw [loop_go]
     generalize (mu K).code (.loopAt 1 [0,2,8,10] l72_0)=F
     simp [l72_0]) (0,seen++[i]) (hin.snoc i0 (by omega) b3)
   rw [iter_fold] at key
   obtain ⟨_,env,k⟩:=key
   have fr:=fold_visR p.nodes.l f (decide (n.k≤5)) n.kids.l (0,seen++[i])
   simp only [if_true] at fr
   rw [fr] at k
   generalize visL (fun k s=>vis p.nodes.l f k (decide (n.k≤5)) s) n.kids.l (seen++[i])=R at *
   have eR:RFr p (0,seen++[i]) o=[Blk.box 26 false p.av,Blk.arr 4 1 false (bools p.nodes.l.length (seen++[i])),Blk.arr 3 1 false (List.map iV seen++[AV.int IntKind.i64 i]),
     Blk.box 105 false (AV.agg [AV.str p.name,Sl.avS Us.av p.uses,Sl.avS Rf.av p.reveal,Sl.avS Nd.av p.nodes,iV p.root,
      AV.str p.scope,iV p.limit,AV.str p.escrow,AV.own (List.length o,1) p.nodes.l.length,AV.own (List.length o,2) (seen.length+1),iV 0])] :: o:=by
    simp [ho2]
   rw [eR] at k
   simp only [List.length_nil,Int.natCast_zero] at k
   simp [c72,KL,lendF,b1,b2,b3,bg,bs,hr,ne,hget_deep,hset_deep,hd,hia,q1,q2,q3,q3',k120,k121,ho,ho2,hz,r1,r2,hfr,k]
end Go.Ab.Pl
/-
  The reference's check of a policy.
-/
namespace Go.Ab.Pl
open Go.Ab.Pol
set_option maxRecDepth 100000
set_option maxHeartbeats 2000000
theorem in_nil (n:Nat):In n []:=⟨List.nodup_nil,fun x h=>by simp at h⟩
theorem bools_nil (n:Nat):List.replicate n (AV.bool false)=bools n []:=by
 apply List.ext_getElem?
 intro j
 unfold bools
 by_cases hj:j < n<;>simp [hj,List.getElem?_replicate]
theorem beqs_map {α:Type} (av:α→AV) (h:∀ x,(av x).beq (av x)=true):∀ l:List α,AV.beqs (l.map av) (l.map av)=true
 | []=>by simp [AV.beqs]
 | x :: l=>by simp [AV.beqs,h x,beqs_map av h l]
theorem beq_avS {α:Type} (av:α→AV) (h:∀ x,(av x).beq (av x)=true) (s:Sl α):(s.avS av).beq (s.avS av)=true:=by
 obtain ⟨nl,l⟩:=s
 cases l with
 | nil=>cases nl<;>rfl
 | cons x l=>
  have:=beqs_map av h (x :: l)
  simpa [Sl.avS,AV.beq] using this
theorem beq_iV (n:Int):(iV n).beq (iV n)=true:=by simp [AV.beq]
theorem beq_us:∀ u:Us,u.av.beq u.av=true:=fun u=>by simp [AV.beq,AV.beqs]
theorem beq_rf:∀ u:Rf,u.av.beq u.av=true:=fun u=>by simp [AV.beq,AV.beqs]
theorem beq_nd:∀ u:Nd,u.av.beq u.av=true:=fun u=>by simp [AV.beq,AV.beqs,beq_avS _ beq_iV]
theorem f76 (p:Po) (hp:Sz p) (h:Heap):(mu K).fn 76 [p.av] h=some (.val (.lst ((vis p.nodes.l 32 p.root true []).2.map iV)) h):=by
 have k:=f72 p hp.nodes h 32 p.root true (0,[]) [] (by omega) (in_nil _)
 have e1:(33 - ((32:Nat):Int))=1:=rfl
 rw [e1] at k
 simp only [List.nil_append,visR,if_true] at k
 generalize vis p.nodes.l 32 p.root true []=R at *
 obtain ⟨e,s⟩:=R
 obtain ⟨ot,oz,ho,hz⟩:=ordB_at s
 have hn:=hp.nodes.1
 have r1:p.nodes.l.length * 1≤room:=by unfold room;omega
 have r2:p.nodes.l.length≤room:=by unfold room;omega
 have hbn:=bools_nil p.nodes.l.length
 have o0:ordB []=.arr 0 0 false []:=rfl
 rw [fn_go (KX _ _ _) fn76 rfl (by simp [c76])]
 simp [RFr,o0,ho] at k
 simp [c76,KL,lendF,hbn,r1,r2,k,beq_avS _ beq_us,beq_avS _ beq_rf,beq_avS _ beq_nd]
/- The loops of the check. -/
end Go.Ab.Pl
