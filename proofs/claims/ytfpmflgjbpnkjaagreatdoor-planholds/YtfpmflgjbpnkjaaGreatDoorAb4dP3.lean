/-
  The nodes of a policy: the program's visit.
-/
import Derived.Test.YtfpmflgjbpnkjaaGreatDoorAb4dP2
set_option linter.unusedVariables false
set_option linter.unusedSimpArgs false
set_option linter.unusedSectionVars false
namespace Go.Ab.Pn
open Go.Ab.Pol
set_option maxRecDepth 100000
set_option maxHeartbeats 1000000
/- A frame below others. -/
theorem hget_deep (T:List (List Blk)) (F:List Blk) (o:Heap) (i:Nat):hget (T++F :: o) (o.length,i)=F[i]?:=by
 induction T with
 | nil=>simp [hget]
 | cons f T ih=>
  simp only [List.cons_append,hget,List.length_append,List.length_cons]
  rw [if_neg (by omega)]
  exact ih
theorem hset_deep (T:List (List Blk)) (F:List Blk) (o:Heap) (i:Nat) (B:Blk):hset (T++F :: o) (o.length,i) B=T++F.set i B :: o:=by
 induction T with
 | nil=>simp [hset]
 | cons f T ih=>
  simp only [List.cons_append,hset,List.length_append,List.length_cons]
  rw [if_neg (by omega),ih]
def seenM (seen:List Int):List (AV×AV):=seen.map fun i=>(.int .i64 i,.bool true)
theorem look_seen (i:Int):∀ seen:List Int,lookK (.one .int) (.int .i64 i) (seenM seen)=some (if i∈seen then some (.bool true) else none)
 | []=>rfl
 | j :: seen=>by
  have ih:=look_seen i seen
  unfold seenM at ih ⊢
  simp only [List.map_cons,lookK,eqK,eqF,if_true]
  by_cases e:i=j
  ·subst e;simp
  ·simp [e,ih]
theorem upd_seen (i:Int):∀ seen:List Int,i∉seen→updK (.one .int) (.int .i64 i) (.bool true) (seenM seen)=some (seenM (seen++[i]))
 | [],_=>rfl
 | j :: seen,h=>by
  simp only [List.mem_cons,not_or] at h
  have ih:=upd_seen i seen h.2
  unfold seenM at ih ⊢
  simp only [List.map_cons,List.cons_append,updK,eqK,eqF,if_true]
  simp [h.1,ih]
abbrev TF (p:Po) (seen:List Int) (o:Heap):Heap:=
 [.box 26 false p.av,.map (seenM seen),.box 256 false (.mp (o.length,1)),.box 257 false (.fn (.func 172) [] [.ptr (o.length,0) 0,.ptr (o.length,2) 0,.ptr (o.length,3) 0])] :: o
abbrev okP (p:Po):Prop:=p.nodes.l.length≤1000∧(∀ n∈p.nodes.l,okN n∧n.kids.l.length≤1000)
theorem iter_visL (v:Int→List Int→Int×List Int):∀ (ks:List Int) (seen:List Int),
  ((visL v ks seen).1=0→iter (fun seen k=>if (v k seen).1=0 then (.inl (v k seen).2:List Int ⊕ (Int×List Int)) else .inr (v k seen)) seen ks=.inl (visL v ks seen).2) ∧
  ((visL v ks seen).1≠0→iter (fun seen k=>if (v k seen).1=0 then (.inl (v k seen).2:List Int ⊕ (Int×List Int)) else .inr (v k seen)) seen ks=.inr (visL v ks seen))
 | [],seen=>⟨fun _=>rfl,fun h=>absurd rfl h⟩
 | k :: ks,seen=>by
  have ih:=iter_visL v ks (v k seen).2
  simp only [iter,visL]
  by_cases h:(v k seen).1=0
  ·simp only [h,if_true]
   exact ih
  ·rw [if_neg h,if_neg h]
   exact ⟨fun q=>absurd q h,fun _=>rfl⟩
theorem f172 (p:Po) (hp:okP p) (o:Heap):∀ (f:Nat) (i:Int) (c:Bool) (seen:List Int) (T:List (List Blk)),f≤32 →
  (mu K).fn 172 [.int .i64 i,.int .i64 (33 - (f:Int)),.bool c,.ptr (o.length,0) 0,.ptr (o.length,2) 0,.ptr (o.length,3) 0] (T++TF p seen o) =
   some (.val (.int .i64 (vis p.nodes.l f i c seen).1) (T++TF p (vis p.nodes.l f i c seen).2 o))
 | f,i,c,seen,T,hf=>by
  have ne:(o.length=T.length+(o.length+1))=False:=by simp;omega
  have ls:=look_seen i seen
  rw [fn_go (KX _ _ _) fn172 rfl (by simp [c172])]
  by_cases b1:i < 0
  ·have e:vis p.nodes.l f i c seen=(3,seen):=by
    have:badAt p.nodes.l i seen=true:=by simp [badAt,b1]
    cases f<;>simp [vis,this]
   rw [e]
   simp [c172,KL,lendF,b1]
  by_cases b2:(p.nodes.l.length:Int)≤i
  ·have e:vis p.nodes.l f i c seen=(3,seen):=by
    have:badAt p.nodes.l i seen=true:=by simp [badAt,b2]
    cases f<;>simp [vis,this]
   rw [e]
   simp [c172,KL,lendF,b1,b2,ne,hget_deep]
  by_cases b3:i∈seen
  ·have e:vis p.nodes.l f i c seen=(3,seen):=by
    have:badAt p.nodes.l i seen=true:=by simp [badAt,b3]
    cases f<;>simp [vis,this]
   rw [e]
   simp [c172,KL,lendF,b1,b2,b3,ne,hget_deep,eqK,eqF,ls]
  have hb:badAt p.nodes.l i seen=false:=bad_false.2 ⟨by omega,by omega,b3⟩
  cases f with
  | zero=>
   have e:vis p.nodes.l 0 i c seen=(7,seen):=by simp [vis,hb]
   rw [e]
   simp [c172,KL,lendF,b1,b2,b3,ne,hget_deep,eqK,eqF,ls]
  | succ f=>
   obtain ⟨n,hnd⟩:∃ n,p.nodes.l[i.toNat]?=some n:=⟨_,List.getElem?_eq_getElem (by omega)⟩
   have hmem:n∈p.nodes.l:=List.mem_of_getElem? hnd
   obtain ⟨hok,hkl⟩:=hp.2 n hmem
   have i0:0≤i:=by omega
   have k115:=fun h=>f173 n c hok h
   have us:=upd_seen i seen b3
   have hia:=fun (k:IntKind)=>iaF_sl (av:=Nd.av) (sz:=6) (s:=p.nodes) (k:=k) (j:=i) (x:=n) i0 hnd rfl
   have hd:¬ (32:Int) < 33 - ((f:Int)+1):=by omega
   have e0:vis p.nodes.l (f+1) i c seen=if formE n c=0 then visL (fun k s=>vis p.nodes.l f k (decide (n.k≤5)) s) n.kids.l (seen++[i]) else (formE n c,seen++[i]):=by
    rw [vis,hb]
    simp [hnd]
   rw [e0]
   by_cases hfe:formE n c=0
   case neg=>
    rw [if_neg hfe]
    simp [c172,KL,lendF,b1,b2,b3,ne,hget_deep,hset_deep,eqK,eqF,ls,us,hd,hia,k115,hfe]
   rw [if_pos hfe]
   have key:=loop_iter (K:=K) (n:=1) (live:=[1,5,10,47,48,49]) (a:=l172_0) (fun s k=>if (vis p.nodes.l f k (decide (n.k≤5)) s).1=0 then (.inl (vis p.nodes.l f k (decide (n.k≤5)) s).2:List Int ⊕ (Int×List Int)) else .inr (vis p.nodes.l f k (decide (n.k≤5)) s))
    (fun pre s=>⟨[(1,.int .i64 (33 - ((f:Int)+1))),(5,.ptr (o.length,3) 0),(10,.ptr (T.length+(o.length+1),0) 0),(47,n.kids.avS iV),(48,.int .i64 (n.kids.l.length:Int)),(49,.int .i64 (pre.length:Int))],[.box 90 false n.av] :: (T++TF p s o)⟩)
    (fun _ _=>True)
    (fun s r=>∃ env,r=some (.exit 1,⟨env,[.box 90 false n.av] :: (T++TF p s o)⟩))
    (fun r q=>∃ env,q=some (.ret,⟨env,[.box 90 false n.av] :: (T++TF p r.2 o)⟩)∧get env 9=.int .i64 r.1) n.kids.l
    (fun pre x r s hl _=>by
     obtain ⟨h1,h2,w1⟩:=idx_facts hl (by omega)
     have ih:=f172 p hp o f x (decide (n.k≤5)) s ([.box 90 false n.av] :: T) (by omega)
     have hix:=fun (k:IntKind)=>iaF_sl (av:=iV) (sz:=1) (s:=n.kids) (k:=k) (j:=(pre.length:Int)) (x:=x) (by omega) (by simpa using h2) rfl
     have wd:IntKind.i64.wrap (33 - ((f:Int)+1)+1)=33 - (f:Int):=by rw [wrap64 (by omega) (by omega)];omega
     simp only [List.cons_append] at ih
     rw [loop_go]
     generalize (mu K).code (.loopAt 1 [1,5,10,47,48,49] l172_0)=F
     clear hl
     generalize vis p.nodes.l f x (decide (n.k≤5)) s=R at *
     obtain ⟨e,s'⟩:=R
     by_cases he:e=0
     ·subst he
      simp [l172_0,KL,lendF,h1,hix,w1,wd,ih,ne,hget_deep]
     ·simp [l172_0,KL,lendF,h1,hix,w1,wd,ih,ne,hget_deep,he])
    (fun s _=>by
     rw [loop_go]
     generalize (mu K).code (.loopAt 1 [1,5,10,47,48,49] l172_0)=F
     simp [l172_0]) (seen++[i]) trivial
   obtain ⟨v1,v2⟩:=iter_visL (fun k s=>vis p.nodes.l f k (decide (n.k≤5)) s) n.kids.l (seen++[i])
   generalize visL (fun k s=>vis p.nodes.l f k (decide (n.k≤5)) s) n.kids.l (seen++[i])=R at *
   obtain ⟨e,s'⟩:=R
   simp only [List.length_nil,Int.natCast_zero] at key
   by_cases he:e=0
   ·subst he
    rw [v1 rfl] at key
    obtain ⟨_,env,k⟩:=key
    simp [c172,KL,lendF,b1,b2,b3,ne,hget_deep,hset_deep,eqK,eqF,ls,us,hd,hia,k115,hfe,k]
   ·rw [v2 he] at key
    obtain ⟨env,k,g9⟩:=key
    simp [c172,KL,lendF,b1,b2,b3,ne,hget_deep,hset_deep,eqK,eqF,ls,us,hd,hia,k115,hfe,k,g9]
theorem f111 (p:Po) (hp:okP p) (h:Heap):(mu K).fn 111 [p.av] h=some (.val (.int .i64 (treeE p)) h):=by
 have k:=f172 p hp h 32 p.root true [] [] (by omega)
 have e1:(33 - ((32:Nat):Int))=1:=rfl
 rw [e1] at k
 simp only [List.nil_append] at k
 unfold treeE
 generalize vis p.nodes.l 32 p.root true []=R at *
 obtain ⟨e,s⟩:=R
 have hln:(seenM s).length=s.length:=by simp [seenM]
 have e0:seenM []=[]:=rfl
 simp only [TF,e0] at k
 rw [fn_go (KX _ _ _) fn111 rfl (by simp [c111])]
 by_cases he:e=0
 ·subst he
  by_cases hl:s.length=p.nodes.l.length
  ·have hl2:((s.length:Int)=(p.nodes.l.length:Int))=True:=by simp;omega
   simp [c111,KL,lendF,k,hl2,hl,hln]
  ·have hl2:((s.length:Int)=(p.nodes.l.length:Int))=False:=by simp;omega
   simp [c111,KL,lendF,k,hl2,hl,hln]
 ·simp [c111,KL,lendF,k,he]
end Go.Ab.Pn
