/-
  The nodes that are reached: the program.
-/
import Derived.Test.YtfpmflgjbpnkjaaAb41P10
import Derived.Test.YtfpmflgjbpnkjaaAbRefs
set_option linter.unusedVariables false
set_option linter.unusedSimpArgs false
set_option linter.unusedSectionVars false
namespace Go.Ab.Pl
open Go.Ab.Pol
set_option maxRecDepth 100000
set_option maxHeartbeats 2000000
theorem in_reaL {n:Nat} {v:Int→List Int→Bool×List Int} (hv:∀ k s,In n s→In n (v k s).2∧s.length≤(v k s).2.length):∀ (ks:List Int) (s:List Int),In n s→In n (reaL v ks s).2∧s.length≤(reaL v ks s).2.length
 | [],s,h=>⟨h,Nat.le_refl _⟩
 | k :: ks,s,h=>by
  simp only [reaL]
  obtain ⟨h1,h2⟩:=hv k s h
  split
  ·obtain ⟨h3,h4⟩:=in_reaL hv ks _ h1
   exact ⟨h3,Nat.le_trans h2 h4⟩
  ·exact ⟨h1,h2⟩
theorem in_rea (ns:List Nd):∀ (f:Nat) (i:Int) (s:List Int),In ns.length s→In ns.length (rea ns f i s).2∧s.length≤(rea ns f i s).2.length
 | 0,i,s,h=>⟨h,Nat.le_refl _⟩
 | f+1,i,s,h=>by
  rw [rea]
  split
  ·exact ⟨h,Nat.le_refl _⟩
  ·rename_i hb
   have hb:badAt ns i s=false:=by
    cases e:badAt ns i s
    ·rfl
    ·exact absurd (.inl e) hb
   obtain ⟨b1,b2,b3⟩:=bad_false.1 hb
   have h':=h.snoc b1 b2 b3
   cases ns[i.toNat]? with
   | none=>exact ⟨h,Nat.le_refl _⟩
   | some n=>
    simp only
    obtain ⟨h3,h4⟩:=in_reaL (fun k s hs=>in_rea ns f k s hs) n.kids.l _ h'
    exact ⟨h3,Nat.le_trans (by simp) h4⟩
theorem iter_reaL (v:Int→List Int→Bool×List Int):∀ (ks:List Int) (seen:List Int),
  ((reaL v ks seen).1=true→iter (fun seen k=>if (v k seen).1=true then (.inl (v k seen).2:List Int ⊕ List Int) else .inr (v k seen).2) seen ks=.inl (reaL v ks seen).2) ∧
  ((reaL v ks seen).1=false→iter (fun seen k=>if (v k seen).1=true then (.inl (v k seen).2:List Int ⊕ List Int) else .inr (v k seen).2) seen ks=.inr (reaL v ks seen).2)
 | [],seen=>⟨fun _=>rfl,fun h=>by cases h⟩
 | k :: ks,seen=>by
  have ih:=iter_reaL v ks (v k seen).2
  simp only [iter,reaL]
  cases h:(v k seen).1
  ·exact ⟨fun q=>by simp [h] at q,fun _=>by simp⟩
  ·simp only [if_true]
   exact ih
abbrev RT (p:Po) (seen:List Int) (o:Heap):Heap:=
  [.box 26 false p.av, ordB seen, .box 43 false (.own (o.length, 1) seen.length), .map (seenM seen), .box 164 false (.mp (o.length, 3)),
   .box 152 false (.fn (.func 125) [] [.ptr (o.length, 0) 0, .ptr (o.length, 4) 0, .ptr (o.length, 2) 0, .ptr (o.length, 5) 0])] :: o
theorem f125 (p:Po) (hp:okP p) (o:Heap):∀ (f:Nat) (i:Int) (seen:List Int) (T:List (List Blk)),p.nodes.l.length+1≤f+seen.length→In p.nodes.l.length seen →
  (mu K).fn 125 [.int .i64 i,.ptr (o.length,0) 0,.ptr (o.length,4) 0,.ptr (o.length,2) 0,.ptr (o.length,5) 0] (T++RT p seen o) =
   some (.val (.bool (rea p.nodes.l f i seen).1) (T++RT p (rea p.nodes.l f i seen).2 o))
 | 0,i,seen,T,hf,hin=>by have:=hin.len;omega
 | f+1,i,seen,T,hf,hin=>by
  have ne:(o.length=T.length+(o.length+1))=False:=by simp;omega
  have ls:=look_seen i seen
  rw [fn_go (KX _ _ _) fn125 rfl (by simp [c125])]
  by_cases b1:i < 0
  ·have e:rea p.nodes.l (f+1) i seen=(false,seen):=by
    have:badAt p.nodes.l i seen=true:=by simp [badAt,b1]
    rw [rea,if_pos (.inl this)]
   rw [e]
   simp [c125,KL,lendF,b1]
  by_cases b2:(p.nodes.l.length:Int)≤i
  ·have e:rea p.nodes.l (f+1) i seen=(false,seen):=by
    have:badAt p.nodes.l i seen=true:=by simp [badAt,b2]
    rw [rea,if_pos (.inl this)]
   rw [e]
   simp [c125,KL,lendF,b1,b2,ne,hget_deep]
  by_cases b3:i∈seen
  ·have e:rea p.nodes.l (f+1) i seen=(false,seen):=by
    have:badAt p.nodes.l i seen=true:=by simp [badAt,b3]
    rw [rea,if_pos (.inl this)]
   rw [e]
   simp [c125,KL,lendF,b1,b2,b3,ne,hget_deep,eqK,eqF,ls]
  have hb:badAt p.nodes.l i seen=false:=bad_false.2 ⟨by omega,by omega,b3⟩
  by_cases b4:seen.length=512
  ·have e:rea p.nodes.l (f+1) i seen=(false,seen):=by rw [rea,if_pos (.inr b4)]
   have d4:((seen.length:Int)=512)=True:=by simp;omega
   rw [e]
   simp [c125,KL,lendF,b1,b2,b3,d4,ne,hget_deep,eqK,eqF,ls]
  have d4:((seen.length:Int)=512)=False:=by simp;omega
  obtain ⟨n,hnd⟩:∃ n,p.nodes.l[i.toNat]?=some n:=⟨_,List.getElem?_eq_getElem (by omega)⟩
  have hmem:n∈p.nodes.l:=List.mem_of_getElem? hnd
  obtain ⟨hok,hkl⟩:=hp.2 n hmem
  have i0:0≤i:=by omega
  have us:=upd_seen i seen b3
  have hia:=fun (k:IntKind)=>iaF_sl (av:=Nd.av) (sz:=6) (s:=p.nodes) (k:=k) (j:=i) (x:=n) i0 hnd rfl
  have hs:seen.length≤p.nodes.l.length:=hin.len
  have hl:=hp.1
  have e0:rea p.nodes.l (f+1) i seen=reaL (fun k s=>rea p.nodes.l f k s) n.kids.l (seen++[i]):=by
   rw [rea,if_neg (by rw [hb];rintro (q | q);cases q;exact b4 q)]
   simp [hnd]
  rw [e0]
  obtain ⟨ot,oz,ho,hz⟩:=ordB_at seen
  have ho2:=ordB_snoc seen i
  have r1:(seen.length+1) * 8≤room:=by unfold room;omega
  have r2:seen.length+1≤room:=by unfold room;omega
  have hin':=hin.snoc i0 (by omega) b3
  have key:=loop_iter (K:=K) (n:=0) (live:=[4,39,40,41]) (a:=l125_0) (fun s k=>if (rea p.nodes.l f k s).1=true then (.inl (rea p.nodes.l f k s).2:List Int ⊕ List Int) else .inr (rea p.nodes.l f k s).2)
   (fun pre s=>⟨[(4,.ptr (o.length,5) 0),(39,n.kids.avS iV),(40,.int .i64 (n.kids.l.length:Int)),(41,.int .i64 (pre.length:Int))],[] :: (T++RT p s o)⟩)
   (fun _ s=>In p.nodes.l.length s∧seen.length+1≤s.length)
   (fun s r=>∃ env,r=some (.exit 0,⟨env,[] :: (T++RT p s o)⟩))
   (fun s r=>∃ env,r=some (.ret,⟨env,[] :: (T++RT p s o)⟩)∧get env 6=.bool false) n.kids.l
   (fun pre x r s hl' hi=>by
    obtain ⟨h1,h2,w1⟩:=idx_facts hl' (by omega)
    have ih:=f125 p hp o f x s ([] :: T) (by omega) hi.1
    have hix:=fun (k:IntKind)=>iaF_sl (av:=iV) (sz:=1) (s:=n.kids) (k:=k) (j:=(pre.length:Int)) (x:=x) (by omega) (by simpa using h2) rfl
    have hi2:=in_rea p.nodes.l f x s hi.1
    have hi3:seen.length+1≤(rea p.nodes.l f x s).2.length:=by omega
    simp only [List.cons_append] at ih
    rw [loop_go]
    generalize (mu K).code (.loopAt 0 [4,39,40,41] l125_0)=F
    clear hl'
    generalize rea p.nodes.l f x s=R at *
    obtain ⟨b,s'⟩:=R
    simp only at hi2 hi3 ih ⊢
    cases b
    ·simp [l125_0,KL,lendF,h1,hix,w1,ih,ne,hget_deep]
    ·simp [l125_0,KL,lendF,h1,hix,w1,ih,ne,hget_deep,hi2.1,hi3])
   (fun s _=>by
    rw [loop_go]
    generalize (mu K).code (.loopAt 0 [4,39,40,41] l125_0)=F
    simp [l125_0]) (seen++[i]) ⟨hin',by simp⟩
  have eR:RT p (seen++[i]) o=[Blk.box 26 false p.av,Blk.arr 3 1 false (List.map iV seen++[AV.int IntKind.i64 i]),.box 43 false (.own (o.length,1) (seen.length+1)),.map (seenM (seen++[i])),.box 164 false (.mp (o.length,3)),
   .box 152 false (.fn (.func 125) [] [.ptr (o.length,0) 0,.ptr (o.length,4) 0,.ptr (o.length,2) 0,.ptr (o.length,5) 0])] :: o:=by
   simp [ho2]
  obtain ⟨v1,v2⟩:=iter_reaL (fun k s=>rea p.nodes.l f k s) n.kids.l (seen++[i])
  rw [eR] at key
  generalize reaL (fun k s=>rea p.nodes.l f k s) n.kids.l (seen++[i])=R at *
  obtain ⟨b,s'⟩:=R
  simp only [List.length_nil,Int.natCast_zero] at key
  cases b
  ·rw [v2 rfl] at key
   obtain ⟨env,k,g6⟩:=key
   simp [c125,KL,lendF,b1,b2,b3,d4,ne,hget_deep,hset_deep,eqK,eqF,ls,us,hia,ho,ho2,hz,r1,r2,k,g6]
  ·rw [v1 rfl] at key
   obtain ⟨_,env,k⟩:=key
   simp [c125,KL,lendF,b1,b2,b3,d4,ne,hget_deep,hset_deep,eqK,eqF,ls,us,hia,ho,ho2,hz,r1,r2,k]
theorem f79 (p:Po) (hp:okP p) (h:Heap):(mu K).fn 79 [p.av] h=some (.val (.tup [.lst ((rea p.nodes.l (p.nodes.l.length+1) p.root []).2.map iV),.bool (rea p.nodes.l (p.nodes.l.length+1) p.root []).1]) h):=by
 have k:=f125 p hp h (p.nodes.l.length+1) p.root [] [] (by simp) ⟨by simp,by simp⟩
 simp only [List.nil_append] at k
 generalize rea p.nodes.l (p.nodes.l.length+1) p.root []=R at *
 obtain ⟨b,s⟩:=R
 have e0:seenM []=[]:=rfl
 have e1:ordB []=.arr 0 0 false []:=rfl
 obtain ⟨ot,oz,ho,hz⟩:=ordB_at s
 simp only [RT,e0,e1,ho,List.length_nil] at k
 rw [fn_go (KX _ _ _) fn79 rfl (by simp [c79])]
 simp [c79,KL,lendF,k]
end Go.Ab.Pl
