/-
  The policy with its schemas, the place of a field: the program.
-/
import Derived.Test.YtfpmflgjbpnkjaaGreatAb4zP10
import Derived.Test.YtfpmflgjbpnkjaaGreatAb4zP13
import Derived.Test.YtfpmflgjbpnkjaaGreatAbRefs
set_option linter.unusedVariables false
set_option linter.unusedSimpArgs false
set_option linter.unusedSectionVars false
namespace Go.Ab.Pz
open Go.Ab.Pol
set_option maxRecDepth 100000
set_option maxHeartbeats 1000000
abbrev fitAV (p:Po) (l:Sl Sc):AV:=.agg [.str p.name,p.uses.avS Us.av,p.reveal.avS Rf.av,p.nodes.avS Nd.av,iV p.root,.str p.scope,iV p.limit,.str p.escrow,l.avS Sc.av]
structure okL (l:Sl Sc):Prop where
 len:l.l.length≤1000
 sc:∀ s∈l.l,okSc s
theorem scN_some (l:List Sc) (nm:Bs):(scN l nm).isSome=decide (nm∈l.map Sc.name):=by
 unfold scN
 rw [Bool.eq_iff_iff]
 simp only [List.find?_isSome,decide_eq_true_eq,List.mem_map]
theorem iter_map {α β γ ρ:Type} (F:β→γ→β ⊕ ρ) (g:α→γ):∀ (l:List α) (b:β),iter (fun b x=>F b (g x)) b l=iter F b (l.map g)
 | [],b=>rfl
 | x :: l,b=>by
  simp only [iter,List.map_cons]
  cases F b (g x) with
  | inl b'=>exact iter_map F g l b'
  | inr r=>rfl
def scF (_:Unit) (s:Sc):Unit ⊕ Int:=if schE s=0 then .inl () else .inr (schE s)
theorem iter_sc:∀ (l:List Sc),iter scF () l=if firstS l=0 then .inl () else .inr (firstS l)
 | []=>rfl
 | s :: l=>by
  have e:=iter_sc l
  simp only [iter,scF,firstS]
  by_cases c:schE s=0
  ·simp [c,e]
  ·simp [c]
theorem beq_strS:∀ u:Bs,(AV.str u).beq (AV.str u)=true:=fun u=>by simp [AV.beq]
theorem beq_fd:∀ u:Pol.Fd,u.av.beq u.av=true:=fun u=>by simp [AV.beq,AV.beqs,beq_avS _ beq_strS]
theorem beq_sc:∀ u:Sc,u.av.beq u.av=true:=fun u=>by simp [AV.beq,AV.beqs,beq_avS _ beq_fd]
theorem f56 (p:Po) (hp:Sz p) (l:Sl Sc) (hl:okL l) (h:Heap):(mu K).fn 56 [p.av,l.avS Sc.av] h=some (.val (.tup [fitAV p l,.int .i64 (readyE p l.l)]) h):=by
 have k24:=fun h=>f50 p hp h
 have key0:=loop_iter (K:=K) (n:=3) (live:=[1,2,4,6,28,29,30]) (a:=l56_0) scF
  (fun pre b=>⟨[(1,l.avS Sc.av),(2,.ptr (h.length,0) 0),(4,.ptr (h.length,1) 0),(6,.ptr (h.length,2) 0),(28,l.avS Sc.av),(29,.int .i64 (l.l.length:Int)),(30,.int .i64 (pre.length:Int))],
   [.box 26 false p.av,.box 114 false (.agg [.str [],.nils,.nils,.nils,iV 0,.str [],iV 0,.str [],.nils]),.box 114 false (fitAV p l)] :: h⟩) (fun _ _=>True)
  (fun b o=>∃ env,o=some (.exit 0,⟨env,[.box 26 false p.av,.box 114 false (.agg [.str [],.nils,.nils,.nils,iV 0,.str [],iV 0,.str [],.nils]),.box 114 false (fitAV p l)] :: h⟩)∧get env 1=l.avS Sc.av∧get env 2=.ptr (h.length,0) 0∧get env 4=.ptr (h.length,1) 0∧get env 6=.ptr (h.length,2) 0)
  (fun e o=>∃ env R,o=some (.ret,⟨env,(.box 26 false p.av :: .box 114 false (fitAV p l) :: R) :: h⟩)∧get env 4=.ptr (h.length,1) 0∧get env 5=.int .i64 e) l.l
  (fun pre x r b hl' hb=>by
   obtain ⟨h1,h2,w1⟩:=idx_facts hl' (by have:=hl.len;omega)
   have hix:=fun (k:IntKind)=>iaF_sl (av:=Sc.av) (sz:=2) (s:=l) (k:=k) (j:=(pre.length:Int)) (x:=x) (by omega) (by simpa using h2) rfl
   have k:=fun h=>f96 x (hl.sc x (by rw [hl'];simp)) h
   rw [loop_go]
   generalize (mu K).code (.loopAt 3 [1,2,4,6,28,29,30] l56_0)=F
   clear hl'
   unfold scF
   by_cases e:schE x=0
   ·simp [l56_0,KL,lendF,h1,hix,w1,k,e]
   ·simp [l56_0,KL,lendF,h1,hix,w1,k,e])
  (fun b _=>by
   rw [loop_go]
   generalize (mu K).code (.loopAt 3 [1,2,4,6,28,29,30] l56_0)=F
   simp [l56_0]) () trivial
 have key1:=loop_iter (K:=K) (n:=3) (live:=[2,4,6,41,42,43]) (a:=l56_1) (fun (met:List Bs) (s:Sc)=>twF met s.name)
  (fun pre b=>⟨[(2,.ptr (h.length,0) 0),(4,.ptr (h.length,1) 0),(6,.ptr (h.length,2) 0),(41,l.avS Sc.av),(42,.int .i64 (l.l.length:Int)),(43,.int .i64 (pre.length:Int))],
   [.box 26 false p.av,.box 114 false (.agg [.str [],.nils,.nils,.nils,iV 0,.str [],iV 0,.str [],.nils]),.box 114 false (fitAV p l)] :: h⟩) (fun pre met=>met=pre.map Sc.name)
  (fun b o=>∃ env,o=some (.exit 2,⟨env,[.box 26 false p.av,.box 114 false (.agg [.str [],.nils,.nils,.nils,iV 0,.str [],iV 0,.str [],.nils]),.box 114 false (fitAV p l)] :: h⟩)∧get env 2=.ptr (h.length,0) 0∧get env 4=.ptr (h.length,1) 0∧get env 6=.ptr (h.length,2) 0)
  (fun e o=>∃ env R,o=some (.ret,⟨env,(.box 26 false p.av :: .box 114 false (fitAV p l) :: R) :: h⟩)∧get env 4=.ptr (h.length,1) 0∧get env 5=.int .i64 8) l.l
  (fun pre x r b hl' hb=>by
   obtain ⟨h1,h2,w1⟩:=idx_facts hl' (by have:=hl.len;omega)
   have hix:=fun (k:IntKind)=>iaF_sl (av:=Sc.av) (sz:=2) (s:=l) (k:=k) (j:=(pre.length:Int)) (x:=x) (by omega) (by simpa using h2) rfl
   have hlen:l.l.length=pre.length+(r.length+1):=by rw [hl'];simp
   have hix:=fun (k:IntKind)=>iaF_lst (sz:=2) (l:=l.l.map Sc.av) (k:=k) (j:=(pre.length:Int)) (v:=x.av) (by omega) (by rw [Int.toNat_natCast,List.getElem?_map,h2];rfl) rfl
   have k:=fun h=>f97 false pre (by have:=hl.len;omega) x.name h
   have k1:l.avS Sc.av=.lst (l.l.map Sc.av):=lv_lst _ (by rw [hl'];simp)
   have kb:=beqs_map Sc.av beq_sc l.l
   have kb1:=beqs_map Sc.av beq_sc pre
   have k2:(l.l.map Sc.av).take pre.length=pre.map Sc.av:=by rw [hl'];simp
   have k3:pre.length≤l.l.length:=by omega
   have k4:(0:Int)≤(pre.length:Int):=by omega
   have k5:=scN_some pre x.name
   simp only [lv_false,k5] at k
   rw [←hb] at k k5
   rw [loop_go]
   generalize (mu K).code (.loopAt 3 [2,4,6,41,42,43] l56_1)=F
   unfold twF
   have hsc:∃ a c,scAV (scN pre x.name)=.agg [.str a,c]∧c.cells=[c]∧(∀ p,c.refOk p=true)∧∀ p h,c.view p h=some (c,h):=by
    cases scN pre x.name with
    | none=>exact ⟨_,_,rfl,by simp,by simp,by simp⟩
    | some s=>exact ⟨_,_,rfl,by simp,by simp,by simp⟩
   obtain ⟨a,c,e1,e2,e3,e4⟩:=hsc
   rw [e1] at k
   have hb2:b++[x.name]=(pre++[x]).map Sc.name:=by rw [hb];simp
   clear hl'
   by_cases e:x.name∈b
   ·simp [l56_1,KL,lendF,h1,hix,w1,k1,k2,k3,k4,k,e,e2,e3,e4,kb,kb1]
   ·simp [l56_1,KL,lendF,h1,hix,w1,k1,k2,k3,k4,k,e,e2,e3,e4,kb,kb1,hb2])
  (fun b _=>by
   rw [loop_go]
   generalize (mu K).code (.loopAt 3 [2,4,6,41,42,43] l56_1)=F
   simp [l56_1]) [] rfl
 have key2:=loop_iter (K:=K) (n:=3) (live:=[4,6,62,63,64]) (a:=l56_2) (fun (_:Unit) (u:Us)=>if (scN l.l u.sc).isSome=true then (.inl ():Unit ⊕ Unit) else .inr ())
  (fun pre b=>⟨[(4,.ptr (h.length,1) 0),(6,.ptr (h.length,2) 0),(62,p.uses.avS Us.av),(63,.int .i64 (p.uses.l.length:Int)),(64,.int .i64 (pre.length:Int))],
   [.box 26 false p.av,.box 114 false (.agg [.str [],.nils,.nils,.nils,iV 0,.str [],iV 0,.str [],.nils]),.box 114 false (fitAV p l)] :: h⟩) (fun _ _=>True)
  (fun b o=>∃ env,o=some (.exit 4,⟨env,[.box 26 false p.av,.box 114 false (.agg [.str [],.nils,.nils,.nils,iV 0,.str [],iV 0,.str [],.nils]),.box 114 false (fitAV p l)] :: h⟩)∧get env 4=.ptr (h.length,1) 0∧get env 6=.ptr (h.length,2) 0)
  (fun e o=>∃ env R,o=some (.ret,⟨env,(.box 26 false p.av :: .box 114 false (fitAV p l) :: R) :: h⟩)∧get env 4=.ptr (h.length,1) 0∧get env 5=.int .i64 9) p.uses.l
  (fun pre x r b hl' hb=>by
   obtain ⟨h1,h2,w1⟩:=idx_facts hl' (by have:=hp.uses.1;omega)
   have hix:=fun (k:IntKind)=>iaF_sl (av:=Us.av) (sz:=2) (s:=p.uses) (k:=k) (j:=(pre.length:Int)) (x:=x) (by omega) (by simpa using h2) rfl
   have k:∀ h,(mu K).fn 97 [l.avS Sc.av,.str x.sc] h=_:=fun h=>f97 l.nl l.l hl.len x.sc h
   rw [loop_go]
   generalize (mu K).code (.loopAt 3 [4,6,62,63,64] l56_2)=F
   have hsc:∃ a c,scAV (scN l.l x.sc)=.agg [.str a,c]∧c.cells=[c]∧(∀ p,c.refOk p=true)∧∀ p h,c.view p h=some (c,h):=by
    cases scN l.l x.sc with
    | none=>exact ⟨_,_,rfl,by simp,by simp,by simp⟩
    | some s=>exact ⟨_,_,rfl,by simp,by simp,by simp⟩
   obtain ⟨a,c,e1,e2,e3,e4⟩:=hsc
   rw [e1] at k
   clear hl'
   cases e:(scN l.l x.sc).isSome
   ·rw [e] at k
    simp [l56_2,KL,lendF,h1,hix,w1,k,e2,e3,e4]
   ·rw [e] at k
    simp [l56_2,KL,lendF,h1,hix,w1,k,e2,e3,e4])
  (fun b _=>by
   rw [loop_go]
   generalize (mu K).code (.loopAt 3 [4,6,62,63,64] l56_2)=F
   simp [l56_2]) () trivial
 simp only [List.length_nil,Int.natCast_zero] at key0 key1 key2
 rw [iter_sc] at key0
 rw [iter_map (fun met s=>twF met s) Sc.name] at key1
 rw [fn_go (KX _ _ _) fn56 rfl (by simp [c56])]
 unfold readyE
 by_cases c0:chk p=0
 case neg=>
  rw [if_pos c0]
  simp [c56,KL,lendF,k24,c0]
 rw [if_neg (by simp [c0])]
 by_cases c1:firstS l.l=0
 case neg=>
  rw [if_neg c1] at key0
  rw [if_pos c1]
  obtain ⟨env,R,k,g4,g5⟩:=key0
  simp [c56,KL,lendF,k24,c0,k,g4,g5]
 rw [if_neg (by simp [c1])]
 rw [if_pos c1] at key0
 obtain ⟨_,env0,a0,a1,a2,a4,a6⟩:=key0
 obtain ⟨t1,t2⟩:=iter_tw (l.l.map Sc.name) [] (by simp)
 simp only [List.nil_append] at t1 t2
 by_cases c2:(l.l.map Sc.name).Nodup
 case neg=>
  rw [t2 c2] at key1
  rw [if_pos c2]
  obtain ⟨env,R,k,g4,g5⟩:=key1
  simp [c56,KL,lendF,k24,c0,a0,a1,a2,a4,a6,k,g4,g5]
 rw [if_neg (by simp [c2])]
 rw [t1 c2] at key1
 obtain ⟨_,env1,b0,b2,b4,b6⟩:=key1
 cases c3:p.uses.l.all (fun u=>(scN l.l u.sc).isSome)
 ·rw [(iter_all (fun u:Us=>(scN l.l u.sc).isSome) p.uses.l).2 c3] at key2
  obtain ⟨env,R,k,g4,g5⟩:=key2
  simp [c56,KL,lendF,k24,c0,a0,a1,a2,a4,a6,b0,b2,b4,b6,k,g4,g5]
 ·rw [(iter_all (fun u:Us=>(scN l.l u.sc).isSome) p.uses.l).1 c3] at key2
  obtain ⟨_,env,k,g4,g6⟩:=key2
  simp [c56,KL,lendF,k24,c0,a0,a1,a2,a4,a6,b0,b2,b4,b6,k,g4,g6]
end Go.Ab.Pz
/-
  The place of a field, the type of a value: the program.
-/
namespace Go.Ab.Pz
open Go.Ab.Pol
set_option maxRecDepth 100000
set_option maxHeartbeats 1000000
def fnd1 (l:List Sc) (attr:Bs) (b:Nat) (u:Us):Option (Nat×Nat×Pol.Fd):=match scN l u.sc with
 | none=>none
 | some s=>match fdI s attr with
  | none=>none
  | some k=>match s.fields.l[k]? with
   | none=>none
   | some f=>some (b,k,f)
def useF (l:List Sc) (r:Rf) (b:Nat) (u:Us):Nat ⊕ Option (Nat×Nat×Pol.Fd):=if u.al=r.al then .inr (fnd1 l r.attr b u) else .inl (b+1)
theorem iter_use (l:List Sc) (r:Rf):∀ (us:List Us) (b:Nat),iter (useF l r) b us=match useI us r.al with
  | none=>.inl (b+us.length)
  | some u=>.inr (match us[u]? with
   | none=>none
   | some x=>fnd1 l r.attr (b+u) x)
 | [],b=>by simp [iter,useI]
 | x :: us,b=>by
  have ih:=iter_use l r us (b+1)
  unfold useI at ih ⊢
  simp only [iter,useF,List.findIdx?_cons]
  by_cases e:x.al=r.al
  ·simp [e]
  ·simp only [e,if_false,ih,decide_false,Bool.false_eq_true]
   cases us.findIdx? (fun u=>decide (u.al=r.al)) with
   | none=>simp;omega
   | some k=>
    have e2:b+1+k=b+(k+1):=by omega
    simp [e2]
theorem findF_1 (us:List Us) (l:List Sc) (r:Rf):findF us l r=match useI us r.al with
  | none=>none
  | some u=>match us[u]? with
   | none=>none
   | some x=>fnd1 l r.attr u x:=rfl
def plAV:Option (Nat×Nat×Pol.Fd)→AV
 | none=>.agg [iV 0,iV 0]
 | some (u,k,_)=>.agg [iV (u:Int),iV ((k:Int)+2)]
def fdAV:Option (Nat×Nat×Pol.Fd)→AV
 | none=>.agg [.str [],iV 0,iV 0,iV 0,.nils]
 | some (_,_,f)=>f.av
theorem f57 (p:Po) (hp:p.uses.l.length≤1000) (l:Sl Sc) (hl:okL l) (r:Rf) (h:Heap):(mu K).fn 57 [fitAV p l,r.av] h=some (.val (.tup [plAV (findF p.uses.l l.l r),fdAV (findF p.uses.l l.l r),.bool (findF p.uses.l l.l r).isSome]) h):=by
 have key:=loop_iter (K:=K) (n:=4) (live:=[2,3,4,5,15,16,17]) (a:=l57_0) (useF l.l r)
  (fun pre b=>⟨[(2,.ptr (h.length,0) 0),(3,.ptr (h.length,1) 0),(4,.ptr (h.length,2) 0),(5,.ptr (h.length,3) 0),(15,p.uses.avS Us.av),(16,.int .i64 (p.uses.l.length:Int)),(17,.int .i64 (pre.length:Int))],
   [.box 114 false (fitAV p l),.box 95 false r.av,.box 118 false (.agg [iV 0,iV 0]),.box 60 false (.agg [.str [],iV 0,iV 0,iV 0,.nils])] :: h⟩) (fun pre b=>b=pre.length)
  (fun b o=>∃ env R,o=some (.exit 0,⟨env,(.box 114 false (fitAV p l) :: .box 95 false r.av :: .box 118 false (.agg [iV 0,iV 0]) :: .box 60 false (.agg [.str [],iV 0,iV 0,iV 0,.nils]) :: R) :: h⟩)∧get env 4=.ptr (h.length,2) 0∧get env 5=.ptr (h.length,3) 0)
  (fun q o=>match q with
   | none=>∃ env R,o=some (.exit 0,⟨env,(.box 114 false (fitAV p l) :: .box 95 false r.av :: .box 118 false (.agg [iV 0,iV 0]) :: .box 60 false (.agg [.str [],iV 0,iV 0,iV 0,.nils]) :: R) :: h⟩)∧get env 4=.ptr (h.length,2) 0∧get env 5=.ptr (h.length,3) 0
   | some (u,k,f)=>∃ env R,o=some (.ret,⟨env,(.box 114 false (fitAV p l) :: .box 95 false r.av :: .box 118 false (.agg [iV (u:Int),iV ((k:Int)+2)]) :: .box 60 false f.av :: R) :: h⟩)∧get env 4=.ptr (h.length,2) 0∧get env 5=.ptr (h.length,3) 0∧get env 6=.bool true) p.uses.l
  (fun pre x rr b hl' hb=>by
   obtain ⟨h1,h2,w1⟩:=idx_facts hl' (by omega)
   have hix:=fun (k:IntKind)=>iaF_sl (av:=Us.av) (sz:=2) (s:=p.uses) (k:=k) (j:=(pre.length:Int)) (x:=x) (by omega) (by simpa using h2) rfl
   have k:∀ h,(mu K).fn 97 [l.avS Sc.av,.str x.sc] h=_:=fun h=>f97 l.nl l.l hl.len x.sc h
   rw [loop_go]
   generalize (mu K).code (.loopAt 4 [2,3,4,5,15,16,17] l57_0)=F
   clear hl'
   unfold useF
   by_cases e:x.al=r.al
   case neg=>simp [l57_0,KL,lendF,h1,hix,w1,e,hb]
   have d:(x.al=r.al)=True:=by simp [e]
   simp only [d,if_true]
   refine ⟨fun _ q=>(by cases q),fun q hq=>?_⟩
   injection hq with hq
   subst hq
   unfold fnd1
   cases es:scN l.l x.sc with
   | none=>
    rw [es] at k
    have z0:scAV none=.agg [.str [],.nils]:=rfl
    rw [z0] at k
    simp [l57_0,KL,lendF,h1,hix,w1,d,k]
   | some s=>
    rw [es] at k
    have z0:scAV (some s)=s.av:=rfl
    rw [z0] at k
    have hs:=hl.sc s (scN_of es).1
    have k2:=fun h=>f98 s hs.len r.attr h
    cases ef:fdI s r.attr with
    | none=>
     rw [ef] at k2
     simp [l57_0,KL,lendF,h1,hix,w1,d,k,k2,ef]
    | some i=>
     rw [ef] at k2
     have hi:i < s.fields.l.length:=by
      unfold fdI at ef
      exact (List.findIdx?_eq_some_iff_getElem.1 ef).1
     have hg:s.fields.l[i]?=some s.fields.l[i]:=List.getElem?_eq_getElem hi
     generalize s.fields.l[i]=f at *
     have hiy:=fun (k:IntKind)=>iaF_sl (av:=Fd.av) (sz:=5) (s:=s.fields) (k:=k) (j:=(i:Int)) (x:=f) (by omega) (by simpa using hg) rfl
     have w2:IntKind.i64.wrap ((i:Int)+2)=(i:Int)+2:=wrap64 (by omega) (by have:=hs.len;omega)
     have q1:=beq_avS _ beq_fd s.fields
     have q2:=beq_avS _ beq_strS f.words
     simp [l57_0,KL,lendF,h1,hix,w1,w2,d,k,k2,hiy,q1,q2,hb,ef,hg])
  (fun b _=>by
   rw [loop_go]
   generalize (mu K).code (.loopAt 4 [2,3,4,5,15,16,17] l57_0)=F
   simp [l57_0]) 0 rfl
 simp only [List.length_nil,Int.natCast_zero] at key
 rw [iter_use] at key
 rw [findF_1]
 rw [fn_go (KX _ _ _) fn57 rfl (by simp [c57])]
 cases eu:useI p.uses.l r.al with
 | none=>
  rw [eu] at key
  obtain ⟨_,env,R,k,g4,g5⟩:=key
  simp [c57,KL,lendF,k,g4,g5,plAV,fdAV]
 | some u=>
  rw [eu] at key
  simp only [Nat.zero_add] at key ⊢
  generalize (match p.uses.l[u]? with | none=>none | some x=>fnd1 l.l r.attr u x)=q at *
  cases q with
  | none=>
   obtain ⟨env,R,k,g4,g5⟩:=key
   simp [c57,KL,lendF,k,g4,g5,plAV,fdAV]
  | some q=>
   obtain ⟨u',k',f⟩:=q
   obtain ⟨env,R,k,g4,g5,g6⟩:=key
   simp [c57,KL,lendF,k,g4,g5,g6,plAV,fdAV]
end Go.Ab.Pz
/-
  Types of values: the program.
-/
namespace Go.Ab.Pz
open Go.Ab.Pol
set_option maxRecDepth 100000
set_option maxHeartbeats 1000000
structure PV where
 number:Bool
 words:Sl Bs
 name:Bs
abbrev PV.av (x:PV):AV:=.agg [.bool x.number,x.words.avS .str,.str x.name]
def PV.vt (x:PV):VT:=if x.number=true then .num else if x.words.l=[] then .wd x.name else .fw x.words.l
structure PV.ok (x:PV):Prop where
 len:x.words.l.length≤1000
 nn:x.number=true∨x.words.l≠[]∨x.words.nl=true
def pvOf (us:List Us) (l:List Sc) (n:Nd):Option PV:=
 if n.k=10 then some ⟨true,⟨true,[]⟩,[]⟩ else if n.k=11 then some ⟨false,⟨true,[]⟩,n.nm⟩ else match findF us l ⟨n.nm,n.attr⟩ with
  | none=>none
  | some (_,_,f)=>some ⟨decide (f.kind=0),f.words,[]⟩
def pvAV:Option PV→AV
 | none=>.agg [.bool true,.nils,.str []]
 | some v=>v.av
theorem find_mem {us:List Us} {l:List Sc} {r:Rf} {u k:Nat} {f:Pol.Fd} (h:findF us l r=some (u,k,f)):∃ s∈l,f∈s.fields.l:=by
 unfold findF at h
 cases e1:useI us r.al with
 | none=>rw [e1] at h;cases h
 | some u'=>
  rw [e1] at h
  simp only at h
  cases e2:us[u']? with
  | none=>rw [e2] at h;cases h
  | some x=>
   rw [e2] at h
   simp only at h
   cases e3:scN l x.sc with
   | none=>rw [e3] at h;cases h
   | some s=>
    rw [e3] at h
    simp only at h
    cases e4:fdI s r.attr with
    | none=>rw [e4] at h;cases h
    | some k'=>
     rw [e4] at h
     simp only at h
     cases e5:s.fields.l[k']? with
     | none=>rw [e5] at h;cases h
     | some g=>
      rw [e5] at h
      simp only [Option.some.injEq,Prod.mk.injEq] at h
      obtain ⟨_,_,rfl⟩:=h
      exact ⟨s,(scN_of e3).1,List.mem_of_getElem? e5⟩
theorem fieldsL_zero:∀ {l:List Pol.Fd} {met:List Bs},fieldsL met l=0→∀ f∈l,fieldE f=0
 | [],met,h,f,hf=>by simp at hf
 | x :: l,met,h,f,hf=>by
  simp only [fieldsL] at h
  split at h
  ·simp at h
  split at h
  ·simp at h
  split at h
  ·rename_i a;exact absurd h a
  ·rename_i a
   have a:fieldE x=0:=by simpa using a
   rcases List.mem_cons.1 hf with rfl | hf
   ·exact a
   ·exact fieldsL_zero h f hf
theorem sch_field {s:Sc} (h:schE s=0):∀ f∈s.fields.l,fieldE f=0:=by
 unfold schE at h
 split at h
 ·simp at h
 split at h
 ·simp at h
 ·exact fieldsL_zero h
theorem field_words {f:Pol.Fd} (h:fieldE f=0):f.kind≠0→f.words.l≠[]:=by
 intro hk e
 unfold fieldE at h
 rw [if_neg hk] at h
 split at h
 ·split at h
  ·simp at h
  ·unfold wordsE at h
   rw [e] at h
   simp at h
 ·simp at h
theorem pv_vt {us:List Us} {l:List Sc} (hs:∀ s∈l,schE s=0) (n:Nd):vtOf us l n=(pvOf us l n).map PV.vt:=by
 unfold vtOf pvOf
 split
 ·simp [PV.vt]
 split
 ·simp [PV.vt]
 ·cases e:findF us l ⟨n.nm,n.attr⟩ with
  | none=>rfl
  | some q=>
   obtain ⟨u,k,f⟩:=q
   obtain ⟨s,h1,h2⟩:=find_mem e
   have:=field_words (sch_field (hs s h1) f h2)
   simp only [Option.map_some,PV.vt]
   by_cases hk:f.kind=0
   ·simp [hk]
   ·simp [hk,this hk]
theorem pv_ok {us:List Us} {l:Sl Sc} (hl:okL l) (hs:∀ s∈l.l,schE s=0) (n:Nd) {v:PV} (h:pvOf us l.l n=some v):v.ok:=by
 unfold pvOf at h
 split at h
 ·injection h with h;subst h;exact ⟨by simp,.inl rfl⟩
 split at h
 ·injection h with h;subst h;exact ⟨by simp,.inr (.inr rfl)⟩
 ·cases e:findF us l.l ⟨n.nm,n.attr⟩ with
  | none=>rw [e] at h;cases h
  | some q=>
   obtain ⟨u,k,f⟩:=q
   rw [e] at h
   obtain ⟨s,h1,h2⟩:=find_mem e
   have:=field_words (sch_field (hs s h1) f h2)
   injection h with h
   subst h
   refine ⟨((hl.sc s h1).fields f h2).len,?_⟩
   by_cases hk:f.kind=0
   ·exact .inl (by simp [hk])
   ·exact .inr (.inl (this hk))
theorem f152 (p:Po) (hp:p.uses.l.length≤1000) (l:Sl Sc) (hl:okL l) {i:Nat} {n:Nd} (hn:p.nodes.l[i]?=some n) (h:Heap) :
  (mu K).fn 152 [fitAV p l,.int .i64 (i:Int)] h=some (.val (.tup [pvAV (pvOf p.uses.l l.l n),.bool (pvOf p.uses.l l.l n).isSome]) h):=by
 have k:=fun h=>f57 p hp l hl ⟨n.nm,n.attr⟩ h
 have hix:=fun (k:IntKind)=>iaF_sl (av:=Nd.av) (sz:=6) (s:=p.nodes) (k:=k) (j:=(i:Int)) (x:=n) (by omega) (by simpa using hn) rfl
 rw [fn_go (KX _ _ _) fn152 rfl (by simp [c152])]
 unfold pvOf
 by_cases c1:n.k=10
 ·have d:(n.k=10)=True:=by simp [c1]
  simp [c152,KL,lendF,hix,d,pvAV]
  rfl
 by_cases c2:n.k=11
 ·have d:(n.k=11)=True:=by simp [c2]
  have d1:(n.k=10)=False:=by simp [c1]
  simp [c152,KL,lendF,hix,d,d1,pvAV]
  rfl
 rw [if_neg c1,if_neg c2]
 cases e:findF p.uses.l l.l ⟨n.nm,n.attr⟩ with
 | none=>
  rw [e] at k
  simp only [plAV,fdAV] at k
  simp [c152,KL,lendF,hix,c1,c2,k,pvAV]
 | some q=>
  obtain ⟨u,k',f⟩:=q
  rw [e] at k
  simp only [plAV,fdAV] at k
  simp [c152,KL,lendF,hix,c1,c2,k,pvAV]
theorem zip_all:∀ (a b:List Bs),a.length=b.length→(a.zip b).all (fun q=>decide (q.1=q.2))=decide (a=b)
 | [],[],_=>rfl
 | [],_ :: _,h=>by simp at h
 | _ :: _,[],h=>by simp at h
 | x :: a,y :: b,h=>by
  have ih:=zip_all a b (by simpa using h)
  simp only [List.zip_cons_cons,List.all_cons,ih]
  rw [Bool.eq_iff_iff]
  simp
theorem f181 (a b:Sl Bs) (ha:a.l.length≤1000) (h:Heap):(mu K).fn 181 [a.avS .str,b.avS .str] h=some (.val (.bool (decide (a.l=b.l))) h):=by
 rw [fn_go (KX _ _ _) fn181 rfl (by simp [c181])]
 by_cases hlen:a.l.length=b.l.length
 case neg=>
  have e:¬ a.l=b.l:=fun q=>hlen (by rw [q])
  have e2:((a.l.length:Int)=(b.l.length:Int))=False:=by simp;omega
  simp [c181,KL,lendF,e,e2,hlen]
 have e2:((a.l.length:Int)=(b.l.length:Int))=True:=by simp;omega
 have hz:(a.l.zip b.l).length=a.l.length:=by simp [hlen]
 have key:=loop_iter (K:=K) (n:=0) (live:=[0,1,12,13]) (a:=l181_0) (fun (_:Unit) (q:Bs×Bs)=>if decide (q.1=q.2)=true then (.inl ():Unit ⊕ Unit) else .inr ())
  (fun pre _=>⟨[(0,a.avS .str),(1,b.avS .str),(12,.int .i64 (a.l.length:Int)),(13,.int .i64 (pre.length:Int))],[] :: h⟩) (fun _ _=>True)
  (fun _ o=>∃ env,o=some (.exit 0,⟨env,[] :: h⟩)) (fun _ o=>∃ env,o=some (.ret,⟨env,[] :: h⟩)∧get env 4=.bool false) (a.l.zip b.l)
  (fun pre q r u hl _=>by
   obtain ⟨x,y⟩:=q
   obtain ⟨h1,h2,w1⟩:=idx_facts hl (by omega)
   rw [hz] at h1
   obtain ⟨g1,g2⟩:=List.getElem?_zip_eq_some.1 h2
   have hix:=fun (k:IntKind)=>iaF_sl (av:=AV.str) (sz:=1) (s:=a) (k:=k) (j:=(pre.length:Int)) (x:=x) (by omega) (by simpa using g1) rfl
   have hiy:=fun (k:IntKind)=>iaF_sl (av:=AV.str) (sz:=1) (s:=b) (k:=k) (j:=(pre.length:Int)) (x:=y) (by omega) (by simpa using g2) rfl
   have qx:=beq_strS x
   have qy:=beq_strS y
   rw [loop_go]
   generalize (mu K).code (.loopAt 0 [0,1,12,13] l181_0)=F
   clear hl
   by_cases e:x=y
   ·have d:(x=y)=True:=by simp [e]
    simp [l181_0,KL,lendF,h1,hix,hiy,w1,d]
   ·simp [l181_0,KL,lendF,h1,hix,hiy,w1,e])
  (fun u _=>by
   rw [loop_go]
   generalize (mu K).code (.loopAt 0 [0,1,12,13] l181_0)=F
   simp [l181_0,hz,hlen]) () trivial
 simp only [List.length_nil,Int.natCast_zero] at key
 have ez:=zip_all a.l b.l hlen
 by_cases e:a.l=b.l
 ·rw [decide_eq_true e] at ez
  rw [(iter_all (fun q:Bs×Bs=>decide (q.1=q.2)) (a.l.zip b.l)).1 ez] at key
  obtain ⟨_,env,k⟩:=key
  have e3:(a.l=b.l)=True:=by simp [e]
  rw [hlen] at k
  simp [c181,KL,lendF,e2,hlen,k,e3]
 ·rw [decide_eq_false e] at ez
  rw [(iter_all (fun q:Bs×Bs=>decide (q.1=q.2)) (a.l.zip b.l)).2 ez] at key
  obtain ⟨env,k,g⟩:=key
  rw [hlen] at k
  simp [c181,KL,lendF,e2,hlen,k,g,e]
theorem f172 (a b:PV) (ha:a.ok) (hb:b.ok) (h:Heap):(mu K).fn 172 [a.av,b.av] h=some (.val (.int .i64 (agreeV a.vt b.vt)) h):=by
 obtain ⟨a1,⟨anl,al⟩,an⟩:=a
 obtain ⟨b1,⟨bnl,bl⟩,bn⟩:=b
 obtain ⟨la,na⟩:=ha
 obtain ⟨lb,nb⟩:=hb
 simp only at la na lb nb
 have k99:∀ h,(mu K).fn 181 [Sl.avS .str ⟨anl,al⟩,Sl.avS .str ⟨bnl,bl⟩] h=_:=fun h=>f181 ⟨anl,al⟩ ⟨bnl,bl⟩ la h
 have kA:∀ h,(mu K).fn 80 [Sl.avS .str ⟨anl,al⟩,.str bn] h=_:=fun h=>f80 anl al bn (by omega) h
 have kB:∀ h,(mu K).fn 80 [Sl.avS .str ⟨bnl,bl⟩,.str an] h=_:=fun h=>f80 bnl bl an (by omega) h
 rw [fn_go (KX _ _ _) fn172 rfl (by simp [c172])]
 cases a1
 ·cases b1
  ·cases al with
   | nil=>
    have e1:anl=true:=by simpa using na
    subst e1
    have ea:Sl.avS AV.str ⟨true,[]⟩=.nils:=rfl
    rw [ea] at k99 kA
    cases bl with
    | nil=>
     have e2:bnl=true:=by simpa using nb
     subst e2
     simp [c172,KL,lendF,ea,PV.vt,agreeV]
    | cons w ws=>
     have eb:Sl.avS AV.str ⟨bnl,w :: ws⟩=.lst ((w :: ws).map .str):=rfl
     rw [eb] at k99 kB
     simp only [List.map_cons] at eb kB
     by_cases hm:an∈w :: ws
     ·have hm2:=hm
      rw [List.mem_cons] at hm2
      simp only [decide_eq_true hm] at kB
      simp [c172,KL,lendF,ea,eb,PV.vt,agreeV,kB,hm2]
     ·have hm2:=hm
      rw [List.mem_cons,not_or] at hm2
      simp only [decide_eq_false hm] at kB
      simp [c172,KL,lendF,ea,eb,PV.vt,agreeV,kB,hm2]
   | cons v vs=>
    have ea:Sl.avS AV.str ⟨anl,v :: vs⟩=.lst ((v :: vs).map .str):=rfl
    rw [ea] at k99 kA
    simp only [List.map_cons] at ea kA k99
    cases bl with
    | nil=>
     have e2:bnl=true:=by simpa using nb
     subst e2
     have eb:Sl.avS AV.str ⟨true,[]⟩=.nils:=rfl
     by_cases hm:bn∈v :: vs
     ·have hm2:=hm
      rw [List.mem_cons] at hm2
      simp only [decide_eq_true hm] at kA
      simp [c172,KL,lendF,ea,eb,PV.vt,agreeV,kA,hm2]
     ·have hm2:=hm
      rw [List.mem_cons,not_or] at hm2
      simp only [decide_eq_false hm] at kA
      simp [c172,KL,lendF,ea,eb,PV.vt,agreeV,kA,hm2]
    | cons w ws=>
     have eb:Sl.avS AV.str ⟨bnl,w :: ws⟩=.lst ((w :: ws).map .str):=rfl
     rw [eb] at k99
     simp only [List.map_cons] at eb k99
     by_cases hm:v :: vs=w :: ws
     ·simp only [decide_eq_true hm] at k99
      have hm2:=hm
      rw [List.cons.injEq] at hm2
      obtain ⟨rfl,rfl⟩:=hm2
      simp [c172,KL,lendF,ea,eb,PV.vt,agreeV,k99]
     ·have hm2:=hm
      rw [List.cons.injEq] at hm2
      simp only [decide_eq_false hm] at k99
      simp [c172,KL,lendF,ea,eb,PV.vt,agreeV,k99,hm2]
  ·by_cases q:al=[]
   ·simp [c172,KL,lendF,PV.vt,agreeV,q]
   ·simp [c172,KL,lendF,PV.vt,agreeV,q]
 ·cases b1
  ·by_cases q:bl=[]
   ·simp [c172,KL,lendF,PV.vt,agreeV,q]
   ·simp [c172,KL,lendF,PV.vt,agreeV,q]
  ·simp [c172,KL,lendF,PV.vt,agreeV]
theorem f171 (v:PV) (h:Heap):(mu K).fn 171 [v.av] h=some (.val (.bool (!v.number)) h):=by
 rw [fn_go (KX _ _ _) fn171 rfl (by simp [c171])]
 simp [c171,KL,lendF]
theorem f180 (l:List PV) (hl:l.length≤1000000) (h:Heap):∃ i:Int,(mu K).fn 180 [.lst (l.map PV.av),.fn (.func 171) [] []] h=some (.val (.int .i64 i) h)∧decide (0≤i)=!l.all PV.number:=by
 have key:=loop_iter (K:=K) (n:=0) (live:=[0,1,7,8]) (a:=l180_0) (fun (_:Unit) (x:PV)=>if x.number=true then (.inl ():Unit ⊕ Unit) else .inr ())
  (fun pre _=>⟨[(0,.lst (l.map PV.av)),(1,.fn (.func 171) [] []),(7,.int .i64 (l.length:Int)),(8,.int .i64 (pre.length:Int))],[] :: h⟩) (fun _ _=>True)
  (fun _ o=>∃ env,o=some (.exit 0,⟨env,[] :: h⟩)) (fun _ o=>∃ env i,o=some (.ret,⟨env,[] :: h⟩)∧get env 4=.int .i64 i∧0≤i) l
  (fun pre x r b hl' _=>by
   obtain ⟨h1,h2,w1⟩:=idx_facts hl' (by omega)
   have hix:=fun (k:IntKind)=>iaF_lst (sz:=3) (l:=l.map PV.av) (k:=k) (j:=(pre.length:Int)) (v:=x.av) (by omega) (by rw [Int.toNat_natCast,List.getElem?_map,h2];rfl) rfl
   have k:=fun h=>f171 x h
   rw [loop_go]
   generalize (mu K).code (.loopAt 0 [0,1,7,8] l180_0)=F
   have hlen:(l.map PV.av).length=l.length:=by simp
   generalize l.map PV.av=M at *
   clear hl'
   cases e:x.number
   ·rw [e] at k
    simp [l180_0,KL,lendF,h1,hix,w1,k]
   ·rw [e] at k
    simp [l180_0,KL,lendF,h1,hix,w1,k])
  (fun b _=>by
   rw [loop_go]
   generalize (mu K).code (.loopAt 0 [0,1,7,8] l180_0)=F
   simp [l180_0]) () trivial
 simp only [List.length_nil,Int.natCast_zero] at key
 rw [fn_go (KX _ _ _) fn180 rfl (by simp [c180])]
 cases hm:l.all PV.number
 ·rw [(iter_all PV.number l).2 hm] at key
  obtain ⟨env,i,k,g4,hi⟩:=key
  exact ⟨i,by simp [c180,KL,lendF,k,g4],by simp [hi]⟩
 ·rw [(iter_all PV.number l).1 hm] at key
  obtain ⟨_,env,k⟩:=key
  exact ⟨-1,by simp [c180,KL,lendF,k],by simp⟩
theorem f148 (l:List PV) (hl:l.length≤1000000) (h:Heap):(mu K).fn 148 [.lst (l.map PV.av)] h=some (.val (.bool (l.all PV.number)) h):=by
 have k186:∀ h,(mu K).fn 170 [.lst (l.map PV.av),.fn (.func 171) [] []] h=some (.val (.bool (!l.all PV.number)) h):=fun h=>by
  obtain ⟨i,k,hi⟩:=f180 l hl ([] :: h)
  rw [fn_go (KX _ _ _) fn170 rfl (by simp [c170])]
  simp [-List.all_eq_true,c170,KL,lendF,k,hi]
 rw [fn_go (KX _ _ _) fn148 rfl (by simp [c148])]
 generalize l.all PV.number=b at *
 simp [c148,KL,lendF,k186]
def agF (v:PV) (_:Unit) (x:PV):Unit ⊕ Int:=if agreeV v.vt x.vt=0 then .inl () else .inr (agreeV v.vt x.vt)
theorem iter_ag (v:PV):∀ l:List PV,iter (agF v) () l=if firstL v.vt (l.map PV.vt)=0 then .inl () else .inr (firstL v.vt (l.map PV.vt))
 | []=>rfl
 | x :: l=>by
  have ih:=iter_ag v l
  simp only [iter,agF,List.map_cons,firstL]
  by_cases e:agreeV v.vt x.vt=0
  ·simp [e,ih]
  ·simp [e]
theorem f149 (v:PV) (l:List PV) (hl:l.length≤1000000) (hv:v.ok) (hs:∀ x∈l,x.ok) (h:Heap):(mu K).fn 149 [.lst ((v :: l).map PV.av)] h=some (.val (.int .i64 (firstA ((v :: l).map PV.vt))) h):=by
 have key:=loop_iter (K:=K) (n:=0) (live:=[0,7,8,9]) (a:=l149_0) (agF v)
  (fun pre _=>⟨[(0,.lst ((v :: l).map PV.av)),(7,.lst (l.map PV.av)),(8,.int .i64 (l.length:Int)),(9,.int .i64 (pre.length:Int))],[] :: h⟩) (fun _ _=>True)
  (fun _ o=>∃ env,o=some (.exit 0,⟨env,[] :: h⟩)) (fun e o=>∃ env R,o=some (.ret,⟨env,R :: h⟩)∧get env 2=.int .i64 e) l
  (fun pre x r b hl' _=>by
   obtain ⟨h1,h2,w1⟩:=idx_facts hl' (by omega)
   have hix:=fun (k:IntKind)=>iaF_lst (sz:=3) (l:=l.map PV.av) (k:=k) (j:=(pre.length:Int)) (v:=x.av) (by omega) (by rw [Int.toNat_natCast,List.getElem?_map,h2];rfl) rfl
   have hi0:=fun (k:IntKind)=>iaF_lst (sz:=3) (l:=(v :: l).map PV.av) (k:=k) (j:=0) (v:=v.av) (by omega) rfl rfl
   have k:=fun h=>f172 v x hv (hs x (by rw [hl'];simp)) h
   simp only [List.map_cons] at hi0 ⊢
   rw [loop_go]
   generalize (mu K).code (.loopAt 0 [0,7,8,9] l149_0)=F
   have hlen:(l.map PV.av).length=l.length:=by simp
   generalize l.map PV.av=M at *
   clear hl'
   unfold agF
   generalize agreeV v.vt x.vt=e at *
   by_cases e0:e=0
   ·have d:(e=0)=True:=by simp [e0]
    subst e0
    simp [l149_0,KL,lendF,h1,hix,hi0,w1,k]
   ·simp [l149_0,KL,lendF,h1,hix,hi0,w1,k,e0])
  (fun b _=>by
   rw [loop_go]
   generalize (mu K).code (.loopAt 0 [0,7,8,9] l149_0)=F
   simp [l149_0]) () trivial
 simp only [List.length_nil,Int.natCast_zero] at key
 rw [iter_ag] at key
 rw [fn_go (KX _ _ _) fn149 rfl (by simp [c149])]
 simp only [List.map_cons,firstA]
 have t1:((1:Int)≤(l.length:Int)+1)=True:=by simp;omega
 have t2:(v.av :: l.map PV.av).take (l.length+1)=v.av :: l.map PV.av:=List.take_of_length_le (by simp)
 by_cases e:firstL v.vt (l.map PV.vt)=0
 ·rw [if_pos e] at key
  obtain ⟨_,env,k⟩:=key
  simp only [List.map_cons] at k
  simp [c149,KL,lendF,k,e,t1,t2]
 ·rw [if_neg e] at key
  obtain ⟨env,R,k,g⟩:=key
  simp only [List.map_cons] at k
  simp [c149,KL,lendF,k,g,t1,t2]
end Go.Ab.Pz
