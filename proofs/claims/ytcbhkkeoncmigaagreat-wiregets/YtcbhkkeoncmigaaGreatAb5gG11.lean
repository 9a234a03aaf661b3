/-
  The reference's reader: proofs.
-/
import Derived.Test.YtcbhkkeoncmigaaGreatAb5gG5
import Derived.Test.YtcbhkkeoncmigaaGreatAb5gT3
set_option linter.unusedVariables false
set_option linter.unusedSimpArgs false
set_option linter.unusedSectionVars false
namespace Go.Ab.WireG
set_option maxRecDepth 100000
set_option maxHeartbeats 1000000
abbrev pfE (H:Heap) (a:Loc):Env:=[(0,.ptr a 0),(2,.ptr (H.length,0) 0),(3,.ptr (H.length,1) 0),(4,.ptr (H.length,2) 0),(5,.ptr (H.length,4) 0)]
abbrev pfB (H:Heap) (A X:Blk) (c rs gs:AV) (t0 s0:Nat) (d:List AV) (nli:Bool) (LL:List It) (n:Nat) (b o:Bool):Heap:=
 [A,X,.box 35 false (.agg [c,rs,gs,.own (H.length,3) d.length]),.arr t0 s0 false d,RX nli LL n b o] :: H
theorem pf_stop (H:Heap) (a:Loc) (A X:Blk) (c rs gs:AV) (nli:Bool) (LL:List It) (d:List AV) (n:Nat) (b o:Bool) (t1 s1:Nat) (hb:b=true∨n=LL.length) :
  ∃ env,(mu K).code (.loopAt 5 [0,2,3,4,5] l51_0) ⟨pfE H a,pfB H A X c rs gs t1 s1 d nli LL n b o⟩=some (.exit 0,⟨env,pfB H A X c rs gs t1 s1 d nli LL n b o⟩) ∧
   get env 0=.ptr a 0∧get env 2=.ptr (H.length,0) 0∧get env 3=.ptr (H.length,1) 0∧get env 4=.ptr (H.length,2) 0∧get env 5=.ptr (H.length,4) 0:=by
 rw [loop_go]
 generalize (mu K).code (CC.loopAt 5 [0,2,3,4,5] l51_0)=F
 rcases hb with rfl | rfl
 ·by_cases hn:(n:Int) < (LL.length:Int)
  ·simp [l51_0,RX,hn]
  ·simp [l51_0,RX,hn]
 ·simp [l51_0,RX]
theorem pf_step (H:Heap) (a:Loc) (A X:Blk) (c rs gs:AV) (hc:c.cells=[c]) (hr:rs.cells=[rs]) (hg:gs.cells=[gs]) (nli:Bool) (LL:List It) (hw:wts LL≤1000000) (done:List AV) (t0 s0:Nat) (n:Nat) (out:Bool) (h0:s0=0∨t0=31∧s0=1) (hn:n < LL.length) (hd:done.length=n)
  (y:Sl Ig) (n':Nat) (b o:Bool) (k:(mu K).fn 117 [.ptr (H.length,4) 0] (pfB H A X c rs gs t0 s0 done nli LL n false out)=some (.val (vIs y) (pfB H A X c rs gs t0 s0 done nli LL n' b o))) :
  (mu K).code (.loopAt 5 [0,2,3,4,5] l51_0) ⟨pfE H a,pfB H A X c rs gs t0 s0 done nli LL n false out⟩ =
   (mu K).code (.loopAt 5 [0,2,3,4,5] l51_0) ⟨pfE H a,pfB H A X c rs gs 31 1 (done++[vIs y]) nli LL n' b o⟩:=by
 have hlen:=len_wt LL
 have h1:(n:Int) < (LL.length:Int):=by omega
 have hr1:(done.length+1) * 24≤room:=by unfold room;omega
 have hr2:done.length+1≤room:=by unfold room;omega
 rw [loop_go]
 generalize (mu K).code (CC.loopAt 5 [0,2,3,4,5] l51_0)=F
 simp only [RX,pfB] at k ⊢
 simp [l51_0,KL,k,h1,hr1,hr2,h0,List.replicate,hc,hr,hg]
theorem pf_loop (H:Heap) (a:Loc) (A X:Blk) (c rs gs:AV) (hc:c.cells=[c]) (hr:rs.cells=[rs]) (hg:gs.cells=[gs]) (nli:Bool) (LL:List It) (hw:wts LL≤1000000) :
  ∀ (l pre:List It) (done:List AV) (t0 s0:Nat) (out:Bool),LL=pre++l→(s0=0∨t0=31∧s0=1)→done.length=pre.length →
  ∃ env t1 s1,∃ (ys:List (Sl Ig)) (n:Nat) (bad o:Bool),(mu K).code (.loopAt 5 [0,2,3,4,5] l51_0) ⟨pfE H a,pfB H A X c rs gs t0 s0 done nli LL pre.length false out⟩ =
    some (.exit 0,⟨env,pfB H A X c rs gs t1 s1 (done++ys.map vIs) nli LL n bad o⟩) ∧
   (get env 0=.ptr a 0∧get env 2=.ptr (H.length,0) 0∧get env 3=.ptr (H.length,1) 0∧get env 4=.ptr (H.length,2) 0∧get env 5=.ptr (H.length,4) 0) ∧
   match mItems iIs l out with
   | some (xs,o')=>bad=false∧n=LL.length∧o=o'∧eqL eqIs xs ys=true
   | none=>bad=true
 | [],pre,done,t0,s0,out,hL,h0,hd=>by
  have e:LL=pre:=by simpa using hL
  subst e
  obtain ⟨env,k,g⟩:=pf_stop H a A X c rs gs nli LL done LL.length false out t0 s0 (.inr rfl)
  exact ⟨env,t0,s0,[],LL.length,false,out,by simpa using k,g,by simp [mItems,eqL]⟩
 | i :: r,pre,done,t0,s0,out,hL,h0,hd=>by
  have hln:LL.length=pre.length+(r.length+1):=by rw [hL];simp
  have k1:=q117 nli LL pre (i :: r) false out (pfB H A X c rs gs t0 s0 done nli LL pre.length false out) (H.length,4) hL (by simp [dom,hget]) hw
  simp only [one,pfB,hset,if_true,List.set_cons_succ,List.set_cons_zero] at k1
  simp only [mItems]
  cases e1:iIs i out with
  | none=>
   rw [e1] at k1
   obtain ⟨y,p,r',o',_,k1⟩:=k1
   obtain ⟨env,k2,g⟩:=pf_stop H a A X c rs gs nli LL (done++[vIs y]) (pre++p).length true o' 31 1 (.inl rfl)
   exact ⟨env,31,1,[y],(pre++p).length,true,o',(pf_step H a A X c rs gs hc hr hg nli LL hw done t0 s0 _ out h0 (by omega) hd y _ _ _ k1).trans (by simpa using k2),g,by simp⟩
  | some y1=>
   obtain ⟨x,b1⟩:=y1
   rw [e1] at k1
   obtain ⟨y,p,hp,he,k1⟩:=k1
   have hp1:p=[i]:=by
    have:=congrArg List.length hp
    simp at this
    have h2:p.length=1:=by omega
    match p,h2 with
    | [j],_=>simp at hp;rw [hp]
   subst hp1
   obtain ⟨env,t1,s1,ys,n,bad,o,ih,g,m⟩:=pf_loop H a A X c rs gs hc hr hg nli LL hw r (pre++[i]) (done++[vIs y]) 31 1 b1 (by simp [hL]) (.inr ⟨rfl,rfl⟩) (by simp [hd])
   refine ⟨env,t1,s1,y :: ys,n,bad,o,(pf_step H a A X c rs gs hc hr hg nli LL hw done t0 s0 _ out h0 (by omega) hd y _ _ _ k1).trans (ih.trans (by simp)),g,?_⟩
   cases e2:mItems iIs r b1 with
   | none=>
    rw [e2] at m
    simp only [e2]
    exact m
   | some y2=>
    obtain ⟨xs,b2⟩:=y2
    rw [e2] at m
    simp only [e2]
    exact ⟨m.1,m.2.1,m.2.2.1,by simp [eqL,he,m.2.2.2]⟩
abbrev Pf.vs (x:Pf):List AV:=[.str x.c,vIs x.rs,vNs x.gs,vIss x.ls]
abbrev Pf.v (x:Pf):AV:=.agg x.vs
def St {α:Type} (sp:SP α) (e:α→α→Bool) (l:List It) (bad out:Bool) (y:α) (r:List It) (b' o':Bool):Prop:=match sp l out with
 | some (x,r',o)=>r'=r∧o=o'∧b'=bad∧e x y=true
 | none=>b'=true
theorem St.mono {α:Type} {sp:SP α} {e:α→α→Bool} {l:List It} {bad out:Bool} {y:α} {r:List It} {b' o':Bool} (s:St sp e l bad out y r b' o') (h:bad=true):b'=true:=by
 unfold St at s
 split at s
 ·rw [s.2.2.1];exact h
 ·exact s
theorem St.ret {α:Type} {e:α→α→Bool} {x y:α} (h:e x y=true) (l:List It) (bad out:Bool):St (sRet x) e l bad out y l bad out:=⟨rfl,rfl,rfl,h⟩
theorem St.bind {α β:Type} {s:SP α} {k:α→SP β} {e1:α→α→Bool} {e:β→β→Bool} {l r1 r2:List It} {bad out b1 o1 b2 o2:Bool} {y1:α} {y2:β} (h1:St s e1 l bad out y1 r1 b1 o1) (hm:b1=true→b2=true)
  (h2:∀ x1,e1 x1 y1=true→St (k x1) e r1 b1 o1 y2 r2 b2 o2):St (sBind s k) e l bad out y2 r2 b2 o2:=by
 unfold St sBind
 unfold St at h1
 cases e0:s l out with
 | none=>
  rw [e0] at h1
  exact hm h1
 | some x=>
  obtain ⟨x,r',o⟩:=x
  rw [e0] at h1
  obtain ⟨rfl,rfl,rfl,he⟩:=h1
  exact h2 x he
theorem RefR.go {f:FuncId} {α:Type} {sp:SP α} {av:α→AV} {e:α→α→Bool} (R:RefR f sp av e) {nl:Bool} {L pre l:List It} {bad out:Bool} {h:Heap} {a:Loc} (hL:L=pre++l) (ha:dom h a) (hw:wts L≤1000000) :
  ∃ y p r b' o',l=p++r∧(mu K).fn f [.ptr a 0] (hset h a (RX nl L pre.length bad out))=some (.val (av y) (hset h a (RX nl L (pre++p).length b' o')))∧St sp e l bad out y r b' o':=by
 have k:=R nl L pre l bad out h a hL ha hw
 unfold St
 cases e0:sp l out with
 | none=>
  rw [e0] at k
  obtain ⟨y,p,r,o,hp,k⟩:=k
  exact ⟨y,p,r,true,o,hp,k,rfl⟩
 | some x=>
  obtain ⟨x,r,o⟩:=x
  rw [e0] at k
  obtain ⟨y,p,hp,he,k⟩:=k
  exact ⟨y,p,r,bad,o,hp,k,rfl,rfl,rfl,he⟩
theorem RefR.of_go {f:FuncId} {α:Type} {sp:SP α} {av:α→AV} {e:α→α→Bool} (G:∀ (nl:Bool) (L pre l:List It) (bad out:Bool) (h:Heap) (a:Loc),L=pre++l→dom h a→wts L≤1000000 →
  ∃ y p r b' o',l=p++r∧(mu K).fn f [.ptr a 0] (hset h a (RX nl L pre.length bad out))=some (.val (av y) (hset h a (RX nl L (pre++p).length b' o')))∧St sp e l bad out y r b' o'):RefR f sp av e:=fun nl L pre l bad out h a hL ha hw=>by
 obtain ⟨y,p,r,b',o',hp,k,s⟩:=G nl L pre l bad out h a hL ha hw
 unfold St at s
 cases e0:sp l out with
 | none=>
  rw [e0] at s
  rw [s] at k
  exact ⟨y,p,r,o',hp,k⟩
 | some x=>
  obtain ⟨x,r2,o⟩:=x
  rw [e0] at s
  obtain ⟨rfl,rfl,rfl,he⟩:=s
  exact ⟨y,p,hp,he,k⟩
def In (l LL rr:List It) (bad b0:Bool):Prop:=match rItem 2 l with
 | some (i,r)=>LL=i.ll∧rr=r∧b0=bad
 | none=>b0=true
theorem f71_go {nl:Bool} {L pre l:List It} {bad out:Bool} {fr:List Blk} {h:Heap} {a:Loc} (hL:L=pre++l) (ha:dom (fr :: h) a) (hw:wts L≤1000000) :
  ∃ nli LL b0 p rr,l=p++rr∧wts LL≤1000000∧(mu K).fn 71 [.ptr a 0] (hset (fr :: h) a (RX nl L pre.length bad out))=some (.val (.ptr (h.length,fr.length) 0) (hset ((fr++[RX nli LL 0 false false]) :: h) a (RX nl L (pre++p).length b0 out)))∧In l LL rr bad b0:=by
 have k:=f71 nl L pre l hL bad out fr h a ha hw
 unfold In
 cases l with
 | nil=>exact ⟨true,[],true,[],[],rfl,by simp [wts],by simpa [rItem] using k,by simp [rItem]⟩
 | cons i r=>
  have hwl:wts (i :: r)≤1000000:=by rw [hL,wts_app] at hw;omega
  simp only [rItem] at k ⊢
  by_cases hk:i.k=2
  ·simp only [hk,if_true] at k ⊢
   exact ⟨i.fl,i.ll,bad,[i],r,rfl,wts_in hwl,by simpa using k,rfl,rfl,rfl⟩
  ·simp only [hk,if_false] at k ⊢
   exact ⟨true,[],true,[],i :: r,rfl,by simp [wts],by simpa using k,rfl⟩
theorem St.inner {α:Type} {sp:SP α} {e:α→α→Bool} (ho:OrS sp) {l LL rr r4:List It} {bad out b0 b4 o4:Bool} {y:α} (hin:In l LL rr bad b0) (hs:St sp e LL false false y r4 b4 o4) :
  St (one (iInner sp)) e l bad out y rr (b0 || (b4 || !r4.isEmpty)) (out || o4):=by
 unfold In at hin
 unfold St at hs ⊢
 cases l with
 | nil=>
  simp only [rItem] at hin
  simp [one,hin]
 | cons i r=>
  simp only [rItem] at hin
  simp only [one,iInner]
  by_cases hk:i.k=2
  ·simp only [hk,if_true] at hin ⊢
   obtain ⟨rfl,rfl,rfl⟩:=hin
   rw [ho i.ll out]
   cases e0:sp i.ll false with
   | none=>
    rw [e0] at hs
    simp only [hs]
    simp
   | some x=>
    obtain ⟨x,r',o⟩:=x
    rw [e0] at hs
    obtain ⟨rfl,rfl,rfl,he⟩:=hs
    cases r' with
    | nil=>simp [he]
    | cons j r'=>simp
  ·simp only [hk,if_false] at hin ⊢
   simp [hin]
theorem lt_rest {LL p r:List It} (h:LL=p++r):decide (p.length < LL.length)=!r.isEmpty:=by
 rw [h]
 cases r<;>simp
theorem St.sl {α:Type} {ip:IP α} {e:α→α→Bool} {l r:List It} {bad out b' o':Bool} {y:Sl α} (s:St (one (iInner (sAll ip))) (eqL e) l bad out y.l r b' o'):St (one (iSl ip)) (fun a b=>eqL e a.l b.l) l bad out y r b' o':=by
 unfold St at s ⊢
 rw [one_map]
 cases e0:one (iInner (sAll ip)) l out with
 | none=>rw [e0] at s;exact s
 | some x=>
  obtain ⟨x,r',o⟩:=x
  rw [e0] at s
  exact s
theorem q51:RefR 51 (one iPf) Pf.v eqPf:=RefR.of_go fun nl L pre l bad out h a hL ha hw=>by
 have hl:=ne_len ha
 have hne:∀ k:Nat,((h.length,k):Loc)≠a:=fun k e=>by
  have:=dom_lt ha
  rw [←e] at this
  simp at this
 obtain ⟨nli,LL,b0,p0,rr,hp0,hwL,k1,i1⟩:=f71_go (nl:=nl) (bad:=bad) (out:=out) (fr:=[.box 35 false (.agg [.str [],.nils,.nils,.nils])]) hL (dom_up ha _) hw
 obtain ⟨c,p1,r1,b1,o1,hp1,k2,s1⟩:=q50.go (nl:=nli) (bad:=false) (out:=false) (h:=[.box 35 false (.agg [.str [],.nils,.nils,.nils]),RX nli LL 0 false false] :: hset h a (RX nl L (pre++p0).length b0 out)) (a:=(h.length,1)) (L:=LL) (pre:=[]) (l:=LL) rfl (by simp [dom,hget,hset_length]) hwL
 have hL1:LL=([]++p1)++r1:=by simpa using hp1
 obtain ⟨rs,p2,r2,b2,o2,hp2,k3,s2⟩:=q117.go (nl:=nli) (bad:=b1) (out:=o1) (h:=[.box 35 false (.agg [.str [],.nils,.nils,.nils]),RX nli LL 0 false false] :: hset h a (RX nl L (pre++p0).length b0 out)) (a:=(h.length,1)) hL1 (by simp [dom,hget,hset_length]) hwL
 have hL2:LL=(([]++p1)++p2)++r2:=by rw [hL1,hp2];simp
 obtain ⟨gs,p3,r3,b3,o3,hp3,k4,s3⟩:=q57.go (nl:=nli) (bad:=b2) (out:=o2) (h:=[.box 35 false (.agg [.str [],.nils,.nils,.nils]),RX nli LL 0 false false] :: hset h a (RX nl L (pre++p0).length b0 out)) (a:=(h.length,1)) hL2 (by simp [dom,hget,hset_length]) hwL
 have hL3:LL=((([]++p1)++p2)++p3)++r3:=by rw [hL2,hp3];simp
 obtain ⟨nl2,L2,b4,p4,r4,hp4,hw2,k5,i2⟩:=f71_go (nl:=nli) (bad:=b3) (out:=o3) (fr:=[.box 35 false (.agg [.str [],.nils,.nils,.nils]),RX nli LL 0 false false,.box 35 false (.agg [.str c,vIs rs,vNs gs,.own (h.length,3) 0]),.arr 0 0 false []]) (h:=hset h a (RX nl L (pre++p0).length b0 out)) (a:=(h.length,1)) hL3 (by simp [dom,hget,hset_length]) hwL
 have hL4:LL=(((([]++p1)++p2)++p3)++p4)++r4:=by rw [hL3,hp4];simp
 have lt4:=lt_rest hL4
 generalize (((([]++p1)++p2)++p3)++p4).length=m4 at k5 lt4
 obtain ⟨env,t1,s1',ls,n2,bad2,o4,k6,⟨g0,g2,g3,g4,g5⟩,m⟩:=pf_loop (hset h a (RX nl L (pre++p0).length b0 out)) a (.box 35 false (.agg [.str [],.nils,.nils,.nils])) (RX nli LL m4 b4 o3) (.str c) (vIs rs) (vNs gs) rfl rfl rfl nl2 L2 hw2 L2 [] [] 0 0 false rfl (.inl rfl) rfl
 have hd:dom (hset h a (RX nl L (pre++p0).length b0 out)) a:=dom_of (get_hset ha _)
 have hb:(bad2 || decide (n2 < L2.length))=bad2:=by
  cases e2:mItems iIs L2 false with
  | none=>rw [e2] at m;simp only at m;simp [m]
  | some x=>obtain ⟨xs,o'⟩:=x;rw [e2] at m;simp [m.1,m.2.1]
 have s4a:St (sAll iIs) (eqL eqIs) L2 false false ls [] bad2 o4:=by
  unfold St sAll
  cases e2:mItems iIs L2 false with
  | none=>rw [e2] at m;exact m
  | some x=>obtain ⟨xs,o'⟩:=x;rw [e2] at m;exact ⟨rfl,m.2.2.1.symm,m.1,m.2.2.2⟩
 have s4:St (one iIss) (fun a b=>eqL eqIs a.l b.l) r3 b3 o3 ⟨false,ls⟩ r4 (b4 || bad2) (o3 || o4):=by
  have:=St.inner (or_all or_Is) i2 s4a (out:=o3)
  simp only [List.isEmpty_nil,Bool.not_true,Bool.or_false] at this
  exact St.sl (y:=⟨false,ls⟩) this
 have s5:St sPf eqPf LL false false ⟨c,rs,gs,⟨false,ls⟩⟩ r4 (b4 || bad2) (o3 || o4):=
  s1.bind (fun e=>s4.mono (s3.mono (s2.mono e))) fun c' q1=>s2.bind (fun e=>s4.mono (s3.mono e)) fun rs' q2=>s3.bind s4.mono fun gs' q3=>s4.bind id fun ls' q4=>St.ret (by simp only [eqPf,q1,q2,q3,Bool.true_and];exact q4) _ _ _
 refine ⟨⟨c,rs,gs,⟨false,ls⟩⟩,p0,rr,_,_,hp0,?_,St.inner or_sPf i1 s5⟩
 have k7:=f72 (a:=(h.length,1)) (b:=(h.length,4)) (H:=pfB (hset h a (RX nl L (pre++p0).length b0 out)) (.box 35 false (.agg [.str [],.nils,.nils,.nils])) (RX nli LL m4 b4 o3) (.str c) (vIs rs) (vNs gs) t1 s1' (ls.map vIs) nl2 L2 n2 bad2 o4)
  (by simp [hget,hset_length];exact ⟨rfl,rfl,rfl,rfl⟩) (by simp [hget,hset_length];exact ⟨rfl,rfl,rfl,rfl⟩) (by simp)
 have k8:=f72 (a:=a) (b:=(h.length,1)) (H:=pfB (hset h a (RX nl L (pre++p0).length b0 out)) (.box 35 false (.agg [.str [],.nils,.nils,.nils])) (RX nli LL m4 (b4 || bad2) (o3 || o4)) (.str c) (vIs rs) (vNs gs) t1 s1' (ls.map vIs) nl2 L2 n2 bad2 o4)
  (nA:=nl) (LA:=L) (na:=(pre++p0).length) (badA:=b0) (outA:=out) (nB:=nli) (LB:=LL) (nb:=m4) (badB:=b4 || bad2) (outB:=o3 || o4)
  (by simp only [hget,hset_length,hl,if_false];exact get_hset ha _) (by simp [hget,hset_length]) (hne 1)
 rw [hb] at k7
 rw [lt4] at k8
 simp only [hset_up hd,hset_hset] at k8
 simp only [hset_up ha] at k1
 simp only [List.length_nil,List.nil_append,List.cons_append,pfB,pfE,hset,hset_length,if_true,List.set_cons_succ,List.set_cons_zero,List.length_cons,Nat.zero_add] at k1 k2 k3 k4 k5 k6 k7 k8 g0 g2 g3 g4 g5
 rw [fn_go (KX _ _ _) fn51 rfl (by simp [c51])]
 simp only [RX,Int.natCast_zero,List.length_append,List.length_map,Int.natCast_add] at k1 k2 k3 k4 k5 k6 k7 k8 ⊢
 simp [c51,KL,k1,k2,k3,k4,k5,k6,k7,k8,g0,g2,g3,g4,g5,hset_length]
end Go.Ab.WireG
/-
  The reference's reader: a message opened;what its reading gives.
-/
namespace Go.Ab.WireG
set_option maxRecDepth 100000
set_option maxHeartbeats 1000000
abbrev eqP2 (a b:P2):Bool:=eqB a.a b.a && eqB a.b b.b
theorem q65_go {nl:Bool} {L pre l:List It} {bad out:Bool} {h:Heap} {a:Loc} (hL:L=pre++l) (ha:dom h a) (hw:wts L≤1000000) :
  ∃ (y:P2) (p r:List It) (b' o':Bool),l=p++r∧(mu K).fn 65 [.ptr a 0,.int .i64 2] (hset h a (RX nl L pre.length bad out))=some (.val (.lst [.str y.a,.str y.b]) (hset h a (RX nl L (pre++p).length b' o')))∧St (one iP2) eqP2 l bad out y r b' o':=by
 have k:=q65 2 (by omega) nl L pre l bad out h a hL ha hw
 unfold St
 rw [one_p2]
 cases e:Sm 2 l out with
 | none=>
  rw [e] at k
  obtain ⟨ys,p,r,o,hy,hp,k⟩:=k
  match ys,hy with
  | [x,y],_=>exact ⟨⟨x,y⟩,p,r,true,o,hp,k,rfl⟩
 | some x=>
  obtain ⟨xs,r,o⟩:=x
  rw [e] at k
  obtain ⟨hx,p,hp,k⟩:=k
  match xs,hx with
  | [x,y],_=>exact ⟨⟨x,y⟩,p,r,bad,o,hp,k,rfl,rfl,rfl,by simp [eqP2,eqB]⟩
def opL (kind:List UInt8) (k0:Int) (nl:Bool):List It→Option (Bool×List It×List It)
 | []=>none
 | j :: l=>if k0=2 then if j.k=1 then if j.tt=kind then some (nl,j :: l,l) else none else none else none
def opn (kind:List UInt8) (s:List UInt8):Option (Bool×List It×List It):=opL kind (dcS s).1.k (dcS s).1.fl (dcS s).1.ll
theorem f42_c {s kind:List UInt8} {fr:List Blk} {h:Heap} {k0:Int} {n t:List UInt8} {nli:Bool} {ll:List It} {e:Int} (hd:dcS s=(.mk k0 n t nli ll,e)):match opL kind k0 nli ll with
  | some (nl,L,l)=>e=0→wts L≤1000000∧(∃ j,L=[j]++l)∧∃ jv,(∀ p,AV.refOk p jv=true)∧(mu K).fn 42 [.str s,.str kind] (fr :: h)=some (.val (.tup [.ptr (h.length,fr.length+1) 0,.int .i64 0]) ((fr++[.box 144 false jv,RX nl L 1 false false]) :: h))
  | none=>e=0→(mu K).fn 42 [.str s,.str kind] (fr :: h)=some (.val (.tup [.nilp,.int .i64 3]) (fr :: h)):=by
 have hw:=wt_dcS s
 have kd:=fun h=>f107 s h
 have t0:lv true []=AV.nils:=rfl
 rw [hd] at hw kd
 have hwl:wts ll≤1000000:=by simp only [wt] at hw;omega
 have k1:=f43 nli ll [] ll rfl false false ([.box 144 false (.agg [.int .i64 k0,.str n,.str t,lv nli (It.avs ll)]),RX nli ll 0 false false] :: fr :: h) (h.length+1,1) (by simp [dom,hget]) hwl
 simp only [hset,List.length_cons,if_true,List.set_cons_succ,List.set_cons_zero,List.length_nil,Int.natCast_zero,RX] at k1
 simp only [It.av] at kd
 by_cases hk:k0=2
 case neg=>
  have key:e=0→(mu K).fn 42 [.str s,.str kind] (fr :: h)=some (.val (.tup [.nilp,.int .i64 3]) (fr :: h)):=fun he=>by
   rw [fn_go (KX _ _ _) fn42 rfl (by simp [c42])]
   simp [c42,KL,kd,he,hk]
  cases ll with
  | nil=>exact key
  | cons j l=>
   simp only [opL,hk,if_false]
   exact key
 case pos=>
 subst hk
 cases ll with
 | nil=>
  intro he
  simp only [rItem] at k1
  rw [fn_go (KX _ _ _) fn42 rfl (by simp [c42])]
  by_cases q:([]:List UInt8)=kind
  ·simp [c42,KL,kd,he,k1,q]
  ·simp [c42,KL,kd,he,k1,q]
 | cons j l=>
  simp only [rItem] at k1
  simp only [opL,if_true]
  by_cases hj:j.k=1
  ·simp only [hj,if_true] at k1 ⊢
   by_cases q:j.tt=kind
   ·simp only [q,if_true]
    intro he
    refine ⟨hwl,⟨j,rfl⟩,.agg [.int .i64 2,.str n,.str t,lv nli (It.avs (j :: l))],fun p=>by simp [AV.refOk,AV.refOks],?_⟩
    rw [fn_go (KX _ _ _) fn42 rfl (by simp [c42])]
    simp only [RX]
    simp [c42,KL,kd,he,k1,q]
   ·simp only [q,if_false]
    intro he
    rw [fn_go (KX _ _ _) fn42 rfl (by simp [c42])]
    simp [c42,KL,kd,he,k1,q]
  ·simp only [hj,if_false] at k1 ⊢
   intro he
   rw [fn_go (KX _ _ _) fn42 rfl (by simp [c42])]
   by_cases q:([]:List UInt8)=kind
   ·simp [c42,KL,kd,he,k1,q]
   ·simp [c42,KL,kd,he,k1,q]
theorem f42 (s kind:List UInt8) (fr:List Blk) (h:Heap):match opn kind s with
  | some (nl,L,l)=>(dcS s).2=0→wts L≤1000000∧(∃ j,L=[j]++l)∧∃ jv,(∀ p,AV.refOk p jv=true)∧(mu K).fn 42 [.str s,.str kind] (fr :: h)=some (.val (.tup [.ptr (h.length,fr.length+1) 0,.int .i64 0]) ((fr++[.box 144 false jv,RX nl L 1 false false]) :: h))
  | none=>(dcS s).2=0→(mu K).fn 42 [.str s,.str kind] (fr :: h)=some (.val (.tup [.nilp,.int .i64 3]) (fr :: h)):=by
 rcases hd:dcS s with ⟨⟨k0,n,t,nli,ll⟩,e⟩
 have:=f42_c (kind:=kind) (fr:=fr) (h:=h) hd
 unfold opn
 rw [hd]
 exact this
theorem f42_err (s kind:List UInt8) (h:Heap) (he:(dcS s).2≠0):(mu K).fn 42 [.str s,.str kind] h=some (.val (.tup [.nilp,.int .i64 (dcS s).2]) h):=by
 have kd:=fun h=>f107 s h
 rcases hd:dcS s with ⟨⟨k0,n,t,nli,ll⟩,e⟩
 rw [hd] at kd he
 simp only [It.av] at kd he
 rw [fn_go (KX _ _ _) fn42 rfl (by simp [c42])]
 simp [c42,KL,kd,he]
def endC (b:Bool) (r:List It) (o:Bool):Int:=if b=true∨r≠[] then 3 else if o=true then 2 else 0
theorem getS_err {α:Type} {z:α} {kind:List UInt8} {sp:SP α} {s:List UInt8} (he:(dcS s).2≠0):getS z kind sp s=(z,(dcS s).2):=by
 unfold getS
 rw [if_pos he]
theorem inner_mk {α:Type} (sp:SP α) (k0:Int) (n t:List UInt8) (nli:Bool) (ll:List It) (b:Bool):iInner sp (.mk k0 n t nli ll) b=if k0=2 then (match sp ll b with
  | some (x,[],b')=>some (x,b')
  | _=>none) else none:=rfl
theorem getS_none {α:Type} {z:α} {kind:List UInt8} {sp:SP α} {s:List UInt8} (he:(dcS s).2=0) (ho:opn kind s=none):getS z kind sp s=(z,3):=by
 unfold getS
 rw [if_neg (by simp [he])]
 unfold opn at ho
 generalize (dcS s).1=i at ho ⊢
 obtain ⟨k0,n,t,nli,ll⟩:=i
 change opL kind k0 nli ll=none at ho
 simp only [one,inner_mk]
 by_cases hk:k0=2
 ·simp only [hk,if_true,sKind]
  cases ll with
  | nil=>simp [one]
  | cons j l=>
   simp only [opL,hk,if_true] at ho
   simp only [one,iText]
   by_cases hj:j.k=1
   ·by_cases hq:j.tt=kind
    ·simp [hj,hq] at ho
    ·simp [hj,hq]
   ·simp [hj]
 ·simp [hk]
theorem getS_St {α:Type} {z y:α} {kind:List UInt8} {sp:SP α} {e:α→α→Bool} {s:List UInt8} {nl:Bool} {L l r:List It} {b o:Bool} (he:(dcS s).2=0) (ho:opn kind s=some (nl,L,l)) (st:St sp e l false false y r b o) :
  (getS z kind sp s).2=endC b r o∧(endC b r o=0→e (getS z kind sp s).1 y=true)∧(endC b r o≠0→(getS z kind sp s).1=z):=by
 unfold getS
 rw [if_neg (by simp [he])]
 unfold opn at ho
 generalize (dcS s).1=i at ho ⊢
 obtain ⟨k0,n,t,nli,ll⟩:=i
 change opL kind k0 nli ll=some (nl,L,l) at ho
 simp only [one,inner_mk]
 cases ll with
 | nil=>cases ho
 | cons j l'=>
  simp only [opL] at ho
  by_cases hk:k0=2
  case neg=>simp [hk] at ho
  by_cases hj:j.k=1
  case neg=>simp [hj] at ho
  by_cases hq:j.tt=kind
  case neg=>simp [hq] at ho
  simp only [hk,hj,hq,if_true,Option.some.injEq,Prod.mk.injEq] at ho
  obtain ⟨_,_,rfl⟩:=ho
  simp only [hk,if_true,sKind,one,iText,hj,hq]
  unfold St at st
  cases e0:sp l' false with
  | none=>
   rw [e0] at st
   simp only at st
   simp [endC,st]
  | some x=>
   obtain ⟨x,r',o'⟩:=x
   rw [e0] at st
   obtain ⟨rfl,rfl,rfl,hx⟩:=st
   cases r' with
   | nil=>cases o'<;>simp [endC,hx]
   | cons q r'=>simp [endC]
end Go.Ab.WireG
/-
  The reference's Gets: questions, requests, responses, held credentials, deltas.
-/
namespace Go.Ab.WireG
set_option maxRecDepth 100000
set_option maxHeartbeats 2000000
def Lf (L:List It) (n:Nat) (l:List It):Prop:=∃ pre,L=pre++l∧pre.length=n
theorem RefR.lf {f:FuncId} {α:Type} {sp:SP α} {av:α→AV} {e:α→α→Bool} (R:RefR f sp av e) {nl:Bool} {L l:List It} {n:Nat} {bad out:Bool} {h:Heap} {a:Loc} (hL:Lf L n l) (ha:dom h a) (hw:wts L≤1000000) :
  ∃ y n' r b' o',Lf L n' r∧(mu K).fn f [.ptr a 0] (hset h a (RX nl L n bad out))=some (.val (av y) (hset h a (RX nl L n' b' o')))∧St sp e l bad out y r b' o':=by
 obtain ⟨pre,hL,rfl⟩:=hL
 obtain ⟨y,p,r,b',o',hp,k,s⟩:=R.go (nl:=nl) (bad:=bad) (out:=out) hL ha hw
 exact ⟨y,_,r,b',o',⟨pre++p,by rw [hL,hp];simp,rfl⟩,k,s⟩
theorem q65_lf {nl:Bool} {L l:List It} {n:Nat} {bad out:Bool} {h:Heap} {a:Loc} (hL:Lf L n l) (ha:dom h a) (hw:wts L≤1000000) :
  ∃ (y:P2) (n':Nat) (r:List It) (b' o':Bool),Lf L n' r∧(mu K).fn 65 [.ptr a 0,.int .i64 2] (hset h a (RX nl L n bad out))=some (.val (.lst [.str y.a,.str y.b]) (hset h a (RX nl L n' b' o')))∧St (one iP2) eqP2 l bad out y r b' o':=by
 obtain ⟨pre,hL,rfl⟩:=hL
 obtain ⟨y,p,r,b',o',hp,k,s⟩:=q65_go (nl:=nl) (bad:=bad) (out:=out) hL ha hw
 exact ⟨y,_,r,b',o',⟨pre++p,by rw [hL,hp];simp,rfl⟩,k,s⟩
theorem f45_lf {nl:Bool} {L l:List It} {n:Nat} {bad out:Bool} {h:Heap} {a:Loc} (hL:Lf L n l) (ha:dom h a) :
  (mu K).fn 45 [.ptr a 0] (hset h a (RX nl L n bad out))=some (.val (.int .i64 (endC bad l out)) (hset h a (RX nl L n bad out))):=by
 obtain ⟨pre,hL,rfl⟩:=hL
 exact f45 nl L pre l hL bad out h a ha
abbrev eqHd (a b:Hd):Bool:=eqB a.is b.is && (eqB a.sc b.sc && (decide (a.ve=b.ve) && (eqNs a.ats b.ats && (eqSg a.sg b.sg && (decide (a.e=b.e) && eqB a.w b.w)))))
theorem f18 (a b:Hd) (ha:wts (rHd a)≤1000000) (h:Heap):(mu K).fn 18 [a.av,b.av] h=some (.val (.bool (eqHd a b)) h):=by
 simp only [wts] at ha
 have v1:wt (rNs a.ats)≤1000000:=by omega
 have k1:=fun h=>f59 a.ats b.ats (len_rL v1) h
 have ba:=beq_Ns a.ats
 have bb:=beq_Ns b.ats
 rw [fn_go (KX _ _ _) fn18 rfl (by simp [c18])]
 by_cases p1:a.is=b.is
 case neg=>simp [c18,KL,k1,eqF,eqFs,p1,ba,bb]
 by_cases p2:a.sc=b.sc
 case neg=>simp [c18,KL,k1,eqF,eqFs,p1,p2,ba,bb]
 by_cases p3:a.ve=b.ve
 case neg=>simp [c18,KL,k1,eqF,eqFs,p1,p2,p3,ba,bb]
 cases c0:eqNs a.ats b.ats
 case false=>simp [c18,KL,k1,eqF,eqFs,c0,p1,p2,p3,ba,bb]
 by_cases c1:a.sg.a=b.sg.a∧a.sg.e=b.sg.e∧a.sg.v=b.sg.v
 case neg=>
  have n1:(decide (a.sg.a=b.sg.a) && (decide (a.sg.e=b.sg.e) && decide (a.sg.v=b.sg.v)))=false:=by simpa using c1
  simp [c18,KL,k1,eqF,eqFs,c0,n1,p1,p2,p3,ba,bb]
 by_cases c2:a.e=b.e
 case neg=>simp [c18,KL,k1,eqF,eqFs,c0,c1,c2,p1,p2,p3,ba,bb]
 simp [c18,KL,k1,eqF,eqFs,c0,c1,c2,p1,p2,p3,ba,bb]
 try simp_all [eqHd,eqSg,eqB]
abbrev eqDl (a b:Dl):Bool:=decide (a.f=b.f) && (decide (a.t=b.t) && (eqNs a.ad b.ad && (eqNs a.rm b.rm && (eqB a.be b.be && (eqB a.af b.af && (eqB a.sg.a b.sg.a && eqB a.sg.b b.sg.b))))))
theorem f21 (a b:Dl) (ha:wts (rDl a)≤1000000) (h:Heap):(mu K).fn 21 [a.av,b.av] h=some (.val (.bool (eqDl a b)) h):=by
 simp only [wts] at ha
 have v1:wt (rNs a.ad)≤1000000:=by omega
 have v2:wt (rNs a.rm)≤1000000:=by omega
 have k1:=fun h=>f59 a.ad b.ad (len_rL v1) h
 have k2:=fun h=>f59 a.rm b.rm (len_rL v2) h
 rw [fn_go (KX _ _ _) fn21 rfl (by simp [c21])]
 by_cases p1:a.f=b.f
 case neg=>simp [c21,KL,k1,k2,eqF,eqFs,p1]
 by_cases p2:a.t=b.t
 case neg=>simp [c21,KL,k1,k2,eqF,eqFs,p1,p2]
 cases c0:eqNs a.ad b.ad
 case false=>simp [c21,KL,k1,k2,eqF,eqFs,c0,p1,p2]
 cases c3:eqNs a.rm b.rm
 case false=>simp [c21,KL,k1,k2,eqF,eqFs,c0,c3,p1,p2]
 by_cases c1:a.be=b.be
 case neg=>simp [c21,KL,k1,k2,eqF,eqFs,c0,c1,c3,p1,p2]
 by_cases c2:a.af=b.af
 case neg=>simp [c21,KL,k1,k2,eqF,eqFs,c0,c1,c2,c3,p1,p2]
 simp [c21,KL,k1,k2,eqF,eqFs,c0,c1,c2,c3,p1,p2]
 try simp_all [eqDl,eqB]
abbrev eqQu (a b:Qu):Bool:=eqB a.p b.p && (eqB a.v b.v && (eqB a.n b.n && (eqZ a.e b.e && eqZ a.d b.d)))
abbrev Rq.v (x:Rq):AV:=.agg (.str x.c :: .str x.n :: x.p.vs)
abbrev Rs.v (x:Rs):AV:=.agg [vNs x.ats,.str x.sg.a,.str x.sg.e,.str x.sg.v,.str x.w,.int .i64 x.e]
abbrev Hd.v (x:Hd):AV:=.agg [.str x.is,.str x.sc,.int .i64 x.ve,vNs x.ats,.str x.sg.a,.str x.sg.e,.str x.sg.v,.int .i64 x.e,.str x.w]
abbrev Dl.v (x:Dl):AV:=.agg [.int .i64 x.f,.int .i64 x.t,vNs x.ad,vNs x.rm,.str x.be,.str x.af,.str x.sg.a,.str x.sg.b]
theorem and2 {a b:Bool} (h:a=true) (k:b=true):(a && b)=true:=by rw [h,k];rfl
def orZ (c:Int) (z y:AV):AV:=if c=0 then y else z
theorem g9 (s:List UInt8) (h:Heap):∃ y,(mu K).fn 9 [.str s] h=some (.val (.tup [orZ (gQu s).2 (.agg [.str [],.str [],.str [],.int .i64 0,.int .i64 0]) y.av,.int .i64 (gQu s).2]) h)∧((gQu s).2=0→eqQu (gQu s).1 y=true)∧((gQu s).2≠0→(gQu s).1=zQu):=by
 by_cases he:(dcS s).2=0
 case neg=>
  have k0:=fun h=>f42_err s kQu h he
  refine ⟨zQu,?_,fun e=>?_,fun _=>?_⟩
  ·unfold gQu
   rw [getS_err he,fn_go (KX _ _ _) fn9 rfl (by simp [c9])]
   simp [c9,KL,k0,he,orZ]
  ·unfold gQu at e
   rw [getS_err he] at e
   exact absurd e he
  ·unfold gQu
   rw [getS_err he]
 case pos=>
 have k0:=f42 s kQu [.box 24 false (.agg [.str [],.str [],.str [],.int .i64 0,.int .i64 0])] h
 cases ho:opn kQu s with
 | none=>
  rw [ho] at k0
  have k0:=k0 he
  refine ⟨zQu,?_,fun e=>?_,fun _=>?_⟩
  ·unfold gQu
   rw [getS_none he ho,fn_go (KX _ _ _) fn9 rfl (by simp [c9])]
   simp [c9,KL,k0,orZ]
  ·unfold gQu at e
   rw [getS_none he ho] at e
   cases e
  ·unfold gQu
   rw [getS_none he ho]
 | some w=>
  obtain ⟨nl,L,l⟩:=w
  rw [ho] at k0
  obtain ⟨hw,⟨j,hL⟩,jv,hJ,k0⟩:=k0 he
  have hL0:Lf L 1 l:=⟨[j],hL,rfl⟩
  obtain ⟨y1,n1,r1,b1,o1,hL1,k1,s1⟩:=q43.lf (nl:=nl) (bad:=false) (out:=false) (h:=[.box 24 false (.agg [.str [],.str [],.str [],.int .i64 0,.int .i64 0]),.box 144 false jv,RX nl L 1 false false] :: h) (a:=(h.length,2)) hL0 (by simp [dom,hget]) hw
  obtain ⟨y2,n2,r2,b2,o2,hL2,k2,s2⟩:=q43.lf (nl:=nl) (bad:=b1) (out:=o1) (h:=[.box 24 false (.agg [.str [],.str [],.str [],.int .i64 0,.int .i64 0]),.box 144 false jv,RX nl L 1 false false] :: h) (a:=(h.length,2)) hL1 (by simp [dom,hget]) hw
  obtain ⟨y3,n3,r3,b3,o3,hL3,k3,s3⟩:=q43.lf (nl:=nl) (bad:=b2) (out:=o2) (h:=[.box 24 false (.agg [.str [],.str [],.str [],.int .i64 0,.int .i64 0]),.box 144 false jv,RX nl L 1 false false] :: h) (a:=(h.length,2)) hL2 (by simp [dom,hget]) hw
  obtain ⟨y4,n4,r4,b4,o4,hL4,k4,s4⟩:=q44.lf (nl:=nl) (bad:=b3) (out:=o3) (h:=[.box 24 false (.agg [.str [],.str [],.str [],.int .i64 0,.int .i64 0]),.box 144 false jv,RX nl L 1 false false] :: h) (a:=(h.length,2)) hL3 (by simp [dom,hget]) hw
  obtain ⟨y5,n5,r5,b5,o5,hL5,k5,s5⟩:=q44.lf (nl:=nl) (bad:=b4) (out:=o4) (h:=[.box 24 false (.agg [.str [],.str [],.str [],.int .i64 0,.int .i64 0]),.box 144 false jv,RX nl L 1 false false] :: h) (a:=(h.length,2)) hL4 (by simp [dom,hget]) hw
  have st:St sQu eqQu l false false ⟨y1,y2,y3,y4,y5⟩ r5 b5 o5:=
   s1.bind (fun e=>s5.mono (s4.mono (s3.mono (s2.mono e)))) fun x1 q1=>s2.bind (fun e=>s5.mono (s4.mono (s3.mono e))) fun x2 q2=>s3.bind (fun e=>s5.mono (s4.mono e)) fun x3 q3=>s4.bind (fun e=>s5.mono e) fun x4 q4=>s5.bind (fun e=>e) fun x5 q5=>St.ret (and2 q1 (and2 q2 (and2 q3 (and2 q4 (q5))))) _ _ _
  obtain ⟨g1,g2,g3⟩:=getS_St (z:=zQu) he ho st
  refine ⟨⟨y1,y2,y3,y4,y5⟩,?_,fun e=>g2 (g1.symm.trans e),fun e=>g3 (fun e2=>e (g1.trans e2))⟩
  unfold gQu
  rw [g1]
  have kE:=fun X=>f45_lf (nl:=nl) (bad:=b5) (out:=o5) (h:=X) (a:=(h.length,2)) hL5
  have kE:=kE ([.box 24 false (.agg [.str [],.str [],.str [],.int .i64 0,.int .i64 0]),.box 144 false jv,RX nl L 1 false false,.box 24 false (.agg [.str y1,.str y2,.str y3,.int .i64 y4,.int .i64 y5])] :: h) (by simp [dom,hget])
  simp only [hset,if_true,List.set_cons_succ,List.set_cons_zero,List.cons_append,List.nil_append,List.length_cons,List.length_nil,Nat.zero_add,Nat.reduceAdd] at k0 k1 k2 k3 k4 k5 kE
  simp only [RX,Int.natCast_one] at k0 k1 k2 k3 k4 k5 kE
  rw [fn_go (KX _ _ _) fn9 rfl (by simp [c9])]
  by_cases hc:endC b5 r5 o5=0
  ·simp [c9,KL,k0,k1,k2,k3,k4,k5,kE,hc,orZ]
  ·simp [c9,KL,k0,k1,k2,k3,k4,k5,kE,hc,orZ]
theorem g11 (s:List UInt8) (h:Heap):∃ y,(mu K).fn 11 [.str s] h=some (.val (.tup [orZ (gRq s).2 (.agg [.str [],.str [],.str [],.nils,.nils,.nils]) y.v,.int .i64 (gRq s).2]) h)∧((gRq s).2=0→eqRq (gRq s).1 y=true)∧((gRq s).2≠0→(gRq s).1=zRq):=by
 by_cases he:(dcS s).2=0
 case neg=>
  have k0:=fun h=>f42_err s kRq h he
  refine ⟨zRq,?_,fun e=>?_,fun _=>?_⟩
  ·unfold gRq
   rw [getS_err he,fn_go (KX _ _ _) fn11 rfl (by simp [c11])]
   simp [c11,KL,k0,he,orZ]
  ·unfold gRq at e
   rw [getS_err he] at e
   exact absurd e he
  ·unfold gRq
   rw [getS_err he]
 case pos=>
 have k0:=f42 s kRq [.box 37 false (.agg [.str [],.str [],.str [],.nils,.nils,.nils])] h
 cases ho:opn kRq s with
 | none=>
  rw [ho] at k0
  have k0:=k0 he
  refine ⟨zRq,?_,fun e=>?_,fun _=>?_⟩
  ·unfold gRq
   rw [getS_none he ho,fn_go (KX _ _ _) fn11 rfl (by simp [c11])]
   simp [c11,KL,k0,orZ]
  ·unfold gRq at e
   rw [getS_none he ho] at e
   cases e
  ·unfold gRq
   rw [getS_none he ho]
 | some w=>
  obtain ⟨nl,L,l⟩:=w
  rw [ho] at k0
  obtain ⟨hw,⟨j,hL⟩,jv,hJ,k0⟩:=k0 he
  have hL0:Lf L 1 l:=⟨[j],hL,rfl⟩
  obtain ⟨y1,n1,r1,b1,o1,hL1,k1,s1⟩:=q50.lf (nl:=nl) (bad:=false) (out:=false) (h:=[.box 37 false (.agg [.str [],.str [],.str [],.nils,.nils,.nils]),.box 144 false jv,RX nl L 1 false false] :: h) (a:=(h.length,2)) hL0 (by simp [dom,hget]) hw
  obtain ⟨y2,n2,r2,b2,o2,hL2,k2,s2⟩:=q43.lf (nl:=nl) (bad:=b1) (out:=o1) (h:=[.box 37 false (.agg [.str [],.str [],.str [],.nils,.nils,.nils]),.box 144 false jv,RX nl L 1 false false] :: h) (a:=(h.length,2)) hL1 (by simp [dom,hget]) hw
  obtain ⟨y3,n3,r3,b3,o3,hL3,k3,s3⟩:=q51.lf (nl:=nl) (bad:=b2) (out:=o2) (h:=[.box 37 false (.agg [.str [],.str [],.str [],.nils,.nils,.nils]),.box 144 false jv,RX nl L 1 false false] :: h) (a:=(h.length,2)) hL2 (by simp [dom,hget]) hw
  have st:St sRq eqRq l false false ⟨y1,y2,y3⟩ r3 b3 o3:=
   s1.bind (fun e=>s3.mono (s2.mono e)) fun x1 q1=>s2.bind (fun e=>s3.mono e) fun x2 q2=>s3.bind (fun e=>e) fun x3 q3=>St.ret (and2 q1 (and2 q2 (q3))) _ _ _
  obtain ⟨g1,g2,g3⟩:=getS_St (z:=zRq) he ho st
  refine ⟨⟨y1,y2,y3⟩,?_,fun e=>g2 (g1.symm.trans e),fun e=>g3 (fun e2=>e (g1.trans e2))⟩
  unfold gRq
  rw [g1]
  have kE:=fun X=>f45_lf (nl:=nl) (bad:=b3) (out:=o3) (h:=X) (a:=(h.length,2)) hL3
  have kE:=kE ([.box 37 false (.agg [.str [],.str [],.str [],.nils,.nils,.nils]),.box 144 false jv,RX nl L 1 false false,.box 37 false (.agg (.str y1 :: .str y2 :: y3.vs))] :: h) (by simp [dom,hget])
  simp only [hset,if_true,List.set_cons_succ,List.set_cons_zero,List.cons_append,List.nil_append,List.length_cons,List.length_nil,Nat.zero_add,Nat.reduceAdd] at k0 k1 k2 k3 kE
  simp only [RX,Int.natCast_one] at k0 k1 k2 k3 kE
  rw [fn_go (KX _ _ _) fn11 rfl (by simp [c11])]
  by_cases hc:endC b3 r3 o3=0
  ·simp [c11,KL,k0,k1,k2,k3,kE,hc,orZ]
  ·simp [c11,KL,k0,k1,k2,k3,kE,hc,orZ]
theorem g14 (s:List UInt8) (h:Heap):∃ y,(mu K).fn 14 [.str s] h=some (.val (.tup [orZ (gRs s).2 (.agg [.nils,.str [],.str [],.str [],.str [],.int .i64 0]) y.v,.int .i64 (gRs s).2]) h)∧((gRs s).2=0→eqRs (gRs s).1 y=true)∧((gRs s).2≠0→(gRs s).1=zRs):=by
 by_cases he:(dcS s).2=0
 case neg=>
  have k0:=fun h=>f42_err s kRs h he
  refine ⟨zRs,?_,fun e=>?_,fun _=>?_⟩
  ·unfold gRs
   rw [getS_err he,fn_go (KX _ _ _) fn14 rfl (by simp [c14])]
   simp [c14,KL,k0,he,orZ]
  ·unfold gRs at e
   rw [getS_err he] at e
   exact absurd e he
  ·unfold gRs
   rw [getS_err he]
 case pos=>
 have k0:=f42 s kRs [.box 46 false (.agg [.nils,.str [],.str [],.str [],.str [],.int .i64 0])] h
 cases ho:opn kRs s with
 | none=>
  rw [ho] at k0
  have k0:=k0 he
  refine ⟨zRs,?_,fun e=>?_,fun _=>?_⟩
  ·unfold gRs
   rw [getS_none he ho,fn_go (KX _ _ _) fn14 rfl (by simp [c14])]
   simp [c14,KL,k0,orZ]
  ·unfold gRs at e
   rw [getS_none he ho] at e
   cases e
  ·unfold gRs
   rw [getS_none he ho]
 | some w=>
  obtain ⟨nl,L,l⟩:=w
  rw [ho] at k0
  obtain ⟨hw,⟨j,hL⟩,jv,hJ,k0⟩:=k0 he
  have hL0:Lf L 1 l:=⟨[j],hL,rfl⟩
  obtain ⟨y1,n1,r1,b1,o1,hL1,k1,s1⟩:=q57.lf (nl:=nl) (bad:=false) (out:=false) (h:=[.box 46 false (.agg [.nils,.str [],.str [],.str [],.str [],.int .i64 0]),.box 144 false jv,RX nl L 1 false false] :: h) (a:=(h.length,2)) hL0 (by simp [dom,hget]) hw
  obtain ⟨y2,n2,r2,b2,o2,hL2,k2,s2⟩:=q58.lf (nl:=nl) (bad:=b1) (out:=o1) (h:=[.box 46 false (.agg [.nils,.str [],.str [],.str [],.str [],.int .i64 0]),.box 144 false jv,RX nl L 1 false false] :: h) (a:=(h.length,2)) hL1 (by simp [dom,hget]) hw
  obtain ⟨y3,n3,r3,b3,o3,hL3,k3,s3⟩:=q50.lf (nl:=nl) (bad:=b2) (out:=o2) (h:=[.box 46 false (.agg [.nils,.str [],.str [],.str [],.str [],.int .i64 0]),.box 144 false jv,RX nl L 1 false false] :: h) (a:=(h.length,2)) hL2 (by simp [dom,hget]) hw
  obtain ⟨y4,n4,r4,b4,o4,hL4,k4,s4⟩:=q44.lf (nl:=nl) (bad:=b3) (out:=o3) (h:=[.box 46 false (.agg [.nils,.str [],.str [],.str [],.str [],.int .i64 0]),.box 144 false jv,RX nl L 1 false false] :: h) (a:=(h.length,2)) hL3 (by simp [dom,hget]) hw
  have st:St sRs eqRs l false false ⟨y1,y2,y3,y4⟩ r4 b4 o4:=
   s1.bind (fun e=>s4.mono (s3.mono (s2.mono e))) fun x1 q1=>s2.bind (fun e=>s4.mono (s3.mono e)) fun x2 q2=>s3.bind (fun e=>s4.mono e) fun x3 q3=>s4.bind (fun e=>e) fun x4 q4=>St.ret (and2 q1 (and2 q2 (and2 q3 (q4)))) _ _ _
  obtain ⟨g1,g2,g3⟩:=getS_St (z:=zRs) he ho st
  refine ⟨⟨y1,y2,y3,y4⟩,?_,fun e=>g2 (g1.symm.trans e),fun e=>g3 (fun e2=>e (g1.trans e2))⟩
  unfold gRs
  rw [g1]
  have kE:=fun X=>f45_lf (nl:=nl) (bad:=b4) (out:=o4) (h:=X) (a:=(h.length,2)) hL4
  have kE:=kE ([.box 46 false (.agg [.nils,.str [],.str [],.str [],.str [],.int .i64 0]),.box 144 false jv,RX nl L 1 false false,.box 46 false (Rs.v ⟨y1,y2,y3,y4⟩)] :: h) (by simp [dom,hget])
  simp only [hset,if_true,List.set_cons_succ,List.set_cons_zero,List.cons_append,List.nil_append,List.length_cons,List.length_nil,Nat.zero_add,Nat.reduceAdd] at k0 k1 k2 k3 k4 kE
  simp only [RX,Int.natCast_one] at k0 k1 k2 k3 k4 kE
  rw [fn_go (KX _ _ _) fn14 rfl (by simp [c14])]
  by_cases hc:endC b4 r4 o4=0
  ·simp [c14,KL,k0,k1,k2,k3,k4,kE,hc,orZ]
  ·simp [c14,KL,k0,k1,k2,k3,k4,kE,hc,orZ]
theorem g17 (s:List UInt8) (h:Heap):∃ y,(mu K).fn 17 [.str s] h=some (.val (.tup [orZ (gHd s).2 (.agg [.str [],.str [],.int .i64 0,.nils,.str [],.str [],.str [],.int .i64 0,.str []]) y.v,.int .i64 (gHd s).2]) h)∧((gHd s).2=0→eqHd (gHd s).1 y=true)∧((gHd s).2≠0→(gHd s).1=zHd):=by
 by_cases he:(dcS s).2=0
 case neg=>
  have k0:=fun h=>f42_err s kHd h he
  refine ⟨zHd,?_,fun e=>?_,fun _=>?_⟩
  ·unfold gHd
   rw [getS_err he,fn_go (KX _ _ _) fn17 rfl (by simp [c17])]
   simp [c17,KL,k0,he,orZ]
  ·unfold gHd at e
   rw [getS_err he] at e
   exact absurd e he
  ·unfold gHd
   rw [getS_err he]
 case pos=>
 have k0:=f42 s kHd [.box 55 false (.agg [.str [],.str [],.int .i64 0,.nils,.str [],.str [],.str [],.int .i64 0,.str []])] h
 cases ho:opn kHd s with
 | none=>
  rw [ho] at k0
  have k0:=k0 he
  refine ⟨zHd,?_,fun e=>?_,fun _=>?_⟩
  ·unfold gHd
   rw [getS_none he ho,fn_go (KX _ _ _) fn17 rfl (by simp [c17])]
   simp [c17,KL,k0,orZ]
  ·unfold gHd at e
   rw [getS_none he ho] at e
   cases e
  ·unfold gHd
   rw [getS_none he ho]
 | some w=>
  obtain ⟨nl,L,l⟩:=w
  rw [ho] at k0
  obtain ⟨hw,⟨j,hL⟩,jv,hJ,k0⟩:=k0 he
  have hL0:Lf L 1 l:=⟨[j],hL,rfl⟩
  obtain ⟨y1,n1,r1,b1,o1,hL1,k1,s1⟩:=q43.lf (nl:=nl) (bad:=false) (out:=false) (h:=[.box 55 false (.agg [.str [],.str [],.int .i64 0,.nils,.str [],.str [],.str [],.int .i64 0,.str []]),.box 144 false jv,RX nl L 1 false false] :: h) (a:=(h.length,2)) hL0 (by simp [dom,hget]) hw
  obtain ⟨y2,n2,r2,b2,o2,hL2,k2,s2⟩:=q43.lf (nl:=nl) (bad:=b1) (out:=o1) (h:=[.box 55 false (.agg [.str [],.str [],.int .i64 0,.nils,.str [],.str [],.str [],.int .i64 0,.str []]),.box 144 false jv,RX nl L 1 false false] :: h) (a:=(h.length,2)) hL1 (by simp [dom,hget]) hw
  obtain ⟨y3,n3,r3,b3,o3,hL3,k3,s3⟩:=q44.lf (nl:=nl) (bad:=b2) (out:=o2) (h:=[.box 55 false (.agg [.str [],.str [],.int .i64 0,.nils,.str [],.str [],.str [],.int .i64 0,.str []]),.box 144 false jv,RX nl L 1 false false] :: h) (a:=(h.length,2)) hL2 (by simp [dom,hget]) hw
  obtain ⟨y4,n4,r4,b4,o4,hL4,k4,s4⟩:=q57.lf (nl:=nl) (bad:=b3) (out:=o3) (h:=[.box 55 false (.agg [.str [],.str [],.int .i64 0,.nils,.str [],.str [],.str [],.int .i64 0,.str []]),.box 144 false jv,RX nl L 1 false false] :: h) (a:=(h.length,2)) hL3 (by simp [dom,hget]) hw
  obtain ⟨y5,n5,r5,b5,o5,hL5,k5,s5⟩:=q58.lf (nl:=nl) (bad:=b4) (out:=o4) (h:=[.box 55 false (.agg [.str [],.str [],.int .i64 0,.nils,.str [],.str [],.str [],.int .i64 0,.str []]),.box 144 false jv,RX nl L 1 false false] :: h) (a:=(h.length,2)) hL4 (by simp [dom,hget]) hw
  obtain ⟨y6,n6,r6,b6,o6,hL6,k6,s6⟩:=q44.lf (nl:=nl) (bad:=b5) (out:=o5) (h:=[.box 55 false (.agg [.str [],.str [],.int .i64 0,.nils,.str [],.str [],.str [],.int .i64 0,.str []]),.box 144 false jv,RX nl L 1 false false,.box 53 false (.agg [.str y1,.str y2,.int .i64 y3,vNs y4,.str y5.a,.str y5.e,.str y5.v])] :: h) (a:=(h.length,2)) hL5 (by simp [dom,hget]) hw
  obtain ⟨y7,n7,r7,b7,o7,hL7,k7,s7⟩:=q50.lf (nl:=nl) (bad:=b6) (out:=o6) (h:=[.box 55 false (.agg [.str [],.str [],.int .i64 0,.nils,.str [],.str [],.str [],.int .i64 0,.str []]),.box 144 false jv,RX nl L 1 false false,.box 53 false (.agg [.str y1,.str y2,.int .i64 y3,vNs y4,.str y5.a,.str y5.e,.str y5.v])] :: h) (a:=(h.length,2)) hL6 (by simp [dom,hget]) hw
  have st:St sHd eqHd l false false ⟨y1,y2,y3,y4,y5,y6,y7⟩ r7 b7 o7:=
   s1.bind (fun e=>s7.mono (s6.mono (s5.mono (s4.mono (s3.mono (s2.mono e)))))) fun x1 q1=>s2.bind (fun e=>s7.mono (s6.mono (s5.mono (s4.mono (s3.mono e))))) fun x2 q2=>s3.bind (fun e=>s7.mono (s6.mono (s5.mono (s4.mono e)))) fun x3 q3=>s4.bind (fun e=>s7.mono (s6.mono (s5.mono e))) fun x4 q4=>s5.bind (fun e=>s7.mono (s6.mono e)) fun x5 q5=>s6.bind (fun e=>s7.mono e) fun x6 q6=>s7.bind (fun e=>e) fun x7 q7=>St.ret (and2 q1 (and2 q2 (and2 q3 (and2 q4 (and2 q5 (and2 q6 (q7))))))) _ _ _
  obtain ⟨g1,g2,g3⟩:=getS_St (z:=zHd) he ho st
  refine ⟨⟨y1,y2,y3,y4,y5,y6,y7⟩,?_,fun e=>g2 (g1.symm.trans e),fun e=>g3 (fun e2=>e (g1.trans e2))⟩
  unfold gHd
  rw [g1]
  have kE:=fun X=>f45_lf (nl:=nl) (bad:=b7) (out:=o7) (h:=X) (a:=(h.length,2)) hL7
  have kE:=kE ([.box 55 false (.agg [.str [],.str [],.int .i64 0,.nils,.str [],.str [],.str [],.int .i64 0,.str []]),.box 144 false jv,RX nl L 1 false false,.box 53 false (.agg [.str y1,.str y2,.int .i64 y3,vNs y4,.str y5.a,.str y5.e,.str y5.v]),.box 55 false (Hd.v ⟨y1,y2,y3,y4,y5,y6,y7⟩)] :: h) (by simp [dom,hget])
  simp only [hset,if_true,List.set_cons_succ,List.set_cons_zero,List.cons_append,List.nil_append,List.length_cons,List.length_nil,Nat.zero_add,Nat.reduceAdd] at k0 k1 k2 k3 k4 k5 k6 k7 kE
  simp only [RX,Int.natCast_one] at k0 k1 k2 k3 k4 k5 k6 k7 kE
  have ba:=beqs_map (av:=AV.str) (fun x=>by simp [AV.beq]) y4.l
  rw [fn_go (KX _ _ _) fn17 rfl (by simp [c17])]
  by_cases hc:endC b7 r7 o7=0
  ·simp [c17,KL,k0,k1,k2,k3,k4,k5,k6,k7,ba,kE,hc,orZ]
  ·simp [c17,KL,k0,k1,k2,k3,k4,k5,k6,k7,ba,kE,hc,orZ]
theorem g20 (s:List UInt8) (h:Heap):∃ y,(mu K).fn 20 [.str s] h=some (.val (.tup [orZ (gDl s).2 (.agg [.int .i64 0,.int .i64 0,.nils,.nils,.str [],.str [],.str [],.str []]) y.v,.int .i64 (gDl s).2]) h)∧((gDl s).2=0→eqDl (gDl s).1 y=true)∧((gDl s).2≠0→(gDl s).1=zDl):=by
 by_cases he:(dcS s).2=0
 case neg=>
  have k0:=fun h=>f42_err s kDl h he
  refine ⟨zDl,?_,fun e=>?_,fun _=>?_⟩
  ·unfold gDl
   rw [getS_err he,fn_go (KX _ _ _) fn20 rfl (by simp [c20])]
   simp [c20,KL,k0,he,orZ]
  ·unfold gDl at e
   rw [getS_err he] at e
   exact absurd e he
  ·unfold gDl
   rw [getS_err he]
 case pos=>
 have k0:=f42 s kDl [.box 64 false (.agg [.int .i64 0,.int .i64 0,.nils,.nils,.str [],.str [],.str [],.str []])] h
 cases ho:opn kDl s with
 | none=>
  rw [ho] at k0
  have k0:=k0 he
  refine ⟨zDl,?_,fun e=>?_,fun _=>?_⟩
  ·unfold gDl
   rw [getS_none he ho,fn_go (KX _ _ _) fn20 rfl (by simp [c20])]
   simp [c20,KL,k0,orZ]
  ·unfold gDl at e
   rw [getS_none he ho] at e
   cases e
  ·unfold gDl
   rw [getS_none he ho]
 | some w=>
  obtain ⟨nl,L,l⟩:=w
  rw [ho] at k0
  obtain ⟨hw,⟨j,hL⟩,jv,hJ,k0⟩:=k0 he
  have hL0:Lf L 1 l:=⟨[j],hL,rfl⟩
  obtain ⟨y1,n1,r1,b1,o1,hL1,k1,s1⟩:=q44.lf (nl:=nl) (bad:=false) (out:=false) (h:=[.box 64 false (.agg [.int .i64 0,.int .i64 0,.nils,.nils,.str [],.str [],.str [],.str []]),.box 144 false jv,RX nl L 1 false false] :: h) (a:=(h.length,2)) hL0 (by simp [dom,hget]) hw
  obtain ⟨y2,n2,r2,b2,o2,hL2,k2,s2⟩:=q44.lf (nl:=nl) (bad:=b1) (out:=o1) (h:=[.box 64 false (.agg [.int .i64 0,.int .i64 0,.nils,.nils,.str [],.str [],.str [],.str []]),.box 144 false jv,RX nl L 1 false false] :: h) (a:=(h.length,2)) hL1 (by simp [dom,hget]) hw
  obtain ⟨y3,n3,r3,b3,o3,hL3,k3,s3⟩:=q57.lf (nl:=nl) (bad:=b2) (out:=o2) (h:=[.box 64 false (.agg [.int .i64 0,.int .i64 0,.nils,.nils,.str [],.str [],.str [],.str []]),.box 144 false jv,RX nl L 1 false false] :: h) (a:=(h.length,2)) hL2 (by simp [dom,hget]) hw
  obtain ⟨y4,n4,r4,b4,o4,hL4,k4,s4⟩:=q57.lf (nl:=nl) (bad:=b3) (out:=o3) (h:=[.box 64 false (.agg [.int .i64 0,.int .i64 0,.nils,.nils,.str [],.str [],.str [],.str []]),.box 144 false jv,RX nl L 1 false false] :: h) (a:=(h.length,2)) hL3 (by simp [dom,hget]) hw
  obtain ⟨y5,n5,r5,b5,o5,hL5,k5,s5⟩:=q50.lf (nl:=nl) (bad:=b4) (out:=o4) (h:=[.box 64 false (.agg [.int .i64 0,.int .i64 0,.nils,.nils,.str [],.str [],.str [],.str []]),.box 144 false jv,RX nl L 1 false false] :: h) (a:=(h.length,2)) hL4 (by simp [dom,hget]) hw
  obtain ⟨y6,n6,r6,b6,o6,hL6,k6,s6⟩:=q50.lf (nl:=nl) (bad:=b5) (out:=o5) (h:=[.box 64 false (.agg [.int .i64 0,.int .i64 0,.nils,.nils,.str [],.str [],.str [],.str []]),.box 144 false jv,RX nl L 1 false false] :: h) (a:=(h.length,2)) hL5 (by simp [dom,hget]) hw
  obtain ⟨y7,n7,r7,b7,o7,hL7,k7,s7⟩:=q65_lf (nl:=nl) (bad:=b6) (out:=o6) (h:=[.box 64 false (.agg [.int .i64 0,.int .i64 0,.nils,.nils,.str [],.str [],.str [],.str []]),.box 144 false jv,RX nl L 1 false false,.box 64 false (.agg [.int .i64 y1,.int .i64 y2,vNs y3,vNs y4,.str y5,.str y6,.str [],.str []])] :: h) (a:=(h.length,2)) hL6 (by simp [dom,hget]) hw
  have st:St sDl eqDl l false false ⟨y1,y2,y3,y4,y5,y6,y7⟩ r7 b7 o7:=
   s1.bind (fun e=>s7.mono (s6.mono (s5.mono (s4.mono (s3.mono (s2.mono e)))))) fun x1 q1=>s2.bind (fun e=>s7.mono (s6.mono (s5.mono (s4.mono (s3.mono e))))) fun x2 q2=>s3.bind (fun e=>s7.mono (s6.mono (s5.mono (s4.mono e)))) fun x3 q3=>s4.bind (fun e=>s7.mono (s6.mono (s5.mono e))) fun x4 q4=>s5.bind (fun e=>s7.mono (s6.mono e)) fun x5 q5=>s6.bind (fun e=>s7.mono e) fun x6 q6=>s7.bind (fun e=>e) fun x7 q7=>St.ret (and2 q1 (and2 q2 (and2 q3 (and2 q4 (and2 q5 (and2 q6 (q7))))))) _ _ _
  obtain ⟨g1,g2,g3⟩:=getS_St (z:=zDl) he ho st
  refine ⟨⟨y1,y2,y3,y4,y5,y6,y7⟩,?_,fun e=>g2 (g1.symm.trans e),fun e=>g3 (fun e2=>e (g1.trans e2))⟩
  unfold gDl
  rw [g1]
  have kE:=fun X=>f45_lf (nl:=nl) (bad:=b7) (out:=o7) (h:=X) (a:=(h.length,2)) hL7
  have kE:=kE ([.box 64 false (.agg [.int .i64 0,.int .i64 0,.nils,.nils,.str [],.str [],.str [],.str []]),.box 144 false jv,RX nl L 1 false false,.box 64 false (Dl.v ⟨y1,y2,y3,y4,y5,y6,y7⟩)] :: h) (by simp [dom,hget])
  simp only [hset,if_true,List.set_cons_succ,List.set_cons_zero,List.cons_append,List.nil_append,List.length_cons,List.length_nil,Nat.zero_add,Nat.reduceAdd] at k0 k1 k2 k3 k4 k5 k6 k7 kE
  simp only [RX,Int.natCast_one] at k0 k1 k2 k3 k4 k5 k6 k7 kE
  rw [fn_go (KX _ _ _) fn20 rfl (by simp [c20])]
  by_cases hc:endC b7 r7 o7=0
  ·simp [c20,KL,k0,k1,k2,k3,k4,k5,k6,k7,kE,hc,orZ]
  ·simp [c20,KL,k0,k1,k2,k3,k4,k5,k6,k7,kE,hc,orZ]
end Go.Ab.WireG
/-
  The reference's reader: what a presentation shows.
-/
namespace Go.Ab.WireG
set_option maxRecDepth 100000
set_option maxHeartbeats 2000000
abbrev Sh.v (x:Sh):AV:=.agg [.str x.is,.int .i64 x.ve,.str x.a,.str x.w,vNs x.ds]
abbrev zPc:List AV:=[.nils,.nils,.nils,.nils,.str [],.str [],.str [],.nils,.str [],.str [],.str [],.nils,.nils,.nils]
abbrev eB:Blk:=.arr 0 0 false []
abbrev pP (H:Heap) (k:Nat):Blk:=.box 75 false (.agg [.own (H.length,4) k,.own (H.length,5) 0,.own (H.length,6) 0,.own (H.length,7) 0,.str [],.str [],.str [],.own (H.length,8) 0,.str [],.str [],.str [],.own (H.length,9) 0,.own (H.length,10) 0,.own (H.length,11) 0])
abbrev pE (H:Heap):Env:=[(2,.ptr (H.length,0) 0),(4,.ptr (H.length,2) 0),(6,.ptr (H.length,3) 0),(7,.ptr (H.length,12) 0)]
abbrev pB (H:Heap) (jv:AV) (nl:Bool) (L:List It) (nr:Nat) (br or:Bool) (t0 s0:Nat) (d:List AV) (nli:Bool) (LL:List It) (n:Nat) (b o:Bool):Heap:=
 [.box 75 false (.agg zPc),.box 144 false jv,RX nl L nr br or,pP H d.length,.arr t0 s0 false d,eB,eB,eB,eB,eB,eB,eB,RX nli LL n b o] :: H
theorem f71_lf {nl:Bool} {L l:List It} {n:Nat} {bad out:Bool} {fr:List Blk} {h:Heap} {a:Loc} (hL:Lf L n l) (ha:dom (fr :: h) a) (hw:wts L≤1000000) :
  ∃ nli LL b0 n' rr,Lf L n' rr∧wts LL≤1000000∧(mu K).fn 71 [.ptr a 0] (hset (fr :: h) a (RX nl L n bad out))=some (.val (.ptr (h.length,fr.length) 0) (hset ((fr++[RX nli LL 0 false false]) :: h) a (RX nl L n' b0 out)))∧In l LL rr bad b0:=by
 obtain ⟨pre,hL,rfl⟩:=hL
 obtain ⟨nli,LL,b0,p,rr,hp,hwL,k,i⟩:=f71_go (nl:=nl) (bad:=bad) (out:=out) hL ha hw
 exact ⟨nli,LL,b0,_,rr,⟨pre++p,by rw [hL,hp];simp,rfl⟩,hwL,k,i⟩
theorem lf_rest {L r:List It} {n:Nat} (h:Lf L n r):decide (n < L.length)=!r.isEmpty:=by
 obtain ⟨p,hL,rfl⟩:=h
 exact lt_rest hL
theorem sh_stop (H:Heap) (jv:AV) (hJ:∀ p,AV.refOk p jv=true) (nl:Bool) (L:List It) (nr:Nat) (br or:Bool) (nli:Bool) (LL:List It) (d:List AV) (n:Nat) (b o:Bool) (t1 s1:Nat) (hb:b=true∨n=LL.length) :
  ∃ env,(mu K).code (.loopAt 13 [2,4,6,7] l23_0) ⟨pE H,pB H jv nl L nr br or t1 s1 d nli LL n b o⟩=some (.exit 0,⟨env,pB H jv nl L nr br or t1 s1 d nli LL n b o⟩) ∧
   get env 2=.ptr (H.length,0) 0∧get env 4=.ptr (H.length,2) 0∧get env 6=.ptr (H.length,3) 0∧get env 7=.ptr (H.length,12) 0:=by
 rw [loop_go]
 generalize (mu K).code (CC.loopAt 13 [2,4,6,7] l23_0)=F
 rcases hb with rfl | rfl
 ·by_cases hn:(n:Int) < (LL.length:Int)
  ·simp [l23_0,RX,hn]
  ·simp [l23_0,RX,hn]
 ·simp [l23_0,RX]
theorem sh_step (H:Heap) (jv:AV) (hJ:∀ p,AV.refOk p jv=true) (nl:Bool) (L:List It) (nr:Nat) (br or:Bool) (nli:Bool) (LL:List It) (hw:wts LL≤1000000) (done:List AV) (t0 s0:Nat) (n:Nat) (i:It) (r:List It) (out:Bool) (h0:s0=0∨t0=127∧s0=5) (hL:Lf LL n (i :: r)) (hd:done.length=n) :
  ∃ (y:Sh) (n':Nat) (r':List It) (b o:Bool),Lf LL n' r'∧(mu K).code (.loopAt 13 [2,4,6,7] l23_0) ⟨pE H,pB H jv nl L nr br or t0 s0 done nli LL n false out⟩ =
   (mu K).code (.loopAt 13 [2,4,6,7] l23_0) ⟨pE H,pB H jv nl L nr br or 127 5 (done++[y.v]) nli LL n' b o⟩∧St (one iSh) eqSh (i :: r) false out y r' b o:=by
 have hlen:=len_wt LL
 have h1:(n:Int) < (LL.length:Int):=by
  obtain ⟨p,hp,rfl⟩:=hL
  rw [hp]
  simp
  omega
 have hr1:(done.length+1) * 80≤room:=by unfold room;omega
 have hr2:done.length+1≤room:=by unfold room;omega
 obtain ⟨nl2,L2,b0,n0,rr,hL0,hw2,k0,i0⟩:=f71_lf (nl:=nli) (bad:=false) (out:=out) (fr:=[.box 75 false (.agg zPc),.box 144 false jv,RX nl L nr br or,pP H done.length,.arr t0 s0 false done,eB,eB,eB,eB,eB,eB,eB,RX nli LL n false out]) (h:=H) (a:=(H.length,12)) hL (by simp [dom,hget]) hw
 have hZ:Lf L2 0 L2:=⟨[],rfl,rfl⟩
 obtain ⟨y1,n1,r1,b1,o1,hL1,k1,s1⟩:=q43.lf (nl:=nl2) (bad:=false) (out:=false) (h:=[.box 75 false (.agg zPc),.box 144 false jv,RX nl L nr br or,pP H done.length,.arr t0 s0 false done,eB,eB,eB,eB,eB,eB,eB,RX nli LL n0 b0 out,RX nl2 L2 0 false false] :: H) (a:=(H.length,13)) hZ (by simp [dom,hget]) hw2
 obtain ⟨y2,n2,r2,b2,o2,hL2,k2,s2⟩:=q44.lf (nl:=nl2) (bad:=b1) (out:=o1) (h:=[.box 75 false (.agg zPc),.box 144 false jv,RX nl L nr br or,pP H done.length,.arr t0 s0 false done,eB,eB,eB,eB,eB,eB,eB,RX nli LL n0 b0 out,RX nl2 L2 0 false false] :: H) (a:=(H.length,13)) hL1 (by simp [dom,hget]) hw2
 obtain ⟨y3,n3,r3,b3,o3,hL3,k3,s3⟩:=q50.lf (nl:=nl2) (bad:=b2) (out:=o2) (h:=[.box 75 false (.agg zPc),.box 144 false jv,RX nl L nr br or,pP H done.length,.arr t0 s0 false done,eB,eB,eB,eB,eB,eB,eB,RX nli LL n0 b0 out,RX nl2 L2 0 false false] :: H) (a:=(H.length,13)) hL2 (by simp [dom,hget]) hw2
 obtain ⟨y4,n4,r4,b4,o4,hL4,k4,s4⟩:=q50.lf (nl:=nl2) (bad:=b3) (out:=o3) (h:=[.box 75 false (.agg zPc),.box 144 false jv,RX nl L nr br or,pP H done.length,.arr t0 s0 false done,eB,eB,eB,eB,eB,eB,eB,RX nli LL n0 b0 out,RX nl2 L2 0 false false] :: H) (a:=(H.length,13)) hL3 (by simp [dom,hget]) hw2
 obtain ⟨y5,n5,r5,b5,o5,hL5,k5,s5⟩:=q57.lf (nl:=nl2) (bad:=b4) (out:=o4) (h:=[.box 75 false (.agg zPc),.box 144 false jv,RX nl L nr br or,pP H done.length,.arr t0 s0 false done,eB,eB,eB,eB,eB,eB,eB,RX nli LL n0 b0 out,RX nl2 L2 0 false false] :: H) (a:=(H.length,13)) hL4 (by simp [dom,hget]) hw2
 have st:St sSh eqSh L2 false false ⟨y1,y2,y3,y4,y5⟩ r5 b5 o5:=
  s1.bind (fun e=>s5.mono (s4.mono (s3.mono (s2.mono e)))) fun x1 q1=>s2.bind (fun e=>s5.mono (s4.mono (s3.mono e))) fun x2 q2=>s3.bind (fun e=>s5.mono (s4.mono e)) fun x3 q3=>s4.bind (fun e=>s5.mono e) fun x4 q4=>s5.bind (fun e=>e) fun x5 q5=>St.ret (and2 q1 (and2 q2 (and2 q3 (and2 q4 q5)))) _ _ _
 refine ⟨⟨y1,y2,y3,y4,y5⟩,n0,rr,_,_,hL0,?_,St.inner or_sSh i0 st⟩
 have k7:=f72 (a:=(H.length,12)) (b:=(H.length,13)) (nA:=nli) (LA:=LL) (na:=n0) (badA:=b0) (outA:=out) (nB:=nl2) (LB:=L2) (nb:=n5) (badB:=b5) (outB:=o5)
  (H:=[.box 75 false (.agg zPc),.box 144 false jv,RX nl L nr br or,pP H (done.length+1),.arr 127 5 false (done++[Sh.v ⟨y1,y2,y3,y4,y5⟩]),eB,eB,eB,eB,eB,eB,eB,RX nli LL n0 b0 out,RX nl2 L2 n5 b5 o5] :: H) (by simp [hget]) (by simp [hget]) (by simp)
 rw [lf_rest hL5] at k7
 simp only [hset,if_true,List.set_cons_succ,List.set_cons_zero,List.cons_append,List.nil_append,List.length_cons,List.length_nil,Nat.zero_add,Nat.reduceAdd] at k0 k1 k2 k3 k4 k5 k7
 rw [loop_go]
 generalize (mu K).code (CC.loopAt 13 [2,4,6,7] l23_0)=F
 simp only [RX,pB,Int.natCast_zero] at k0 k1 k2 k3 k4 k5 k7 ⊢
 simp [l23_0,KL,k0,k1,k2,k3,k4,k5,k7,h1,hr1,hr2,h0,List.replicate,hJ]
theorem sh_loop (H:Heap) (jv:AV) (hJ:∀ p,AV.refOk p jv=true) (nl:Bool) (L:List It) (nr:Nat) (br or:Bool) (nli:Bool) (LL:List It) (hw:wts LL≤1000000) :
  ∀ (l:List It) (n:Nat) (done:List AV) (t0 s0:Nat) (out:Bool),Lf LL n l→(s0=0∨t0=127∧s0=5)→done.length=n →
  ∃ env t1 s1,∃ (ys:List Sh) (n':Nat) (bad o:Bool),(mu K).code (.loopAt 13 [2,4,6,7] l23_0) ⟨pE H,pB H jv nl L nr br or t0 s0 done nli LL n false out⟩ =
    some (.exit 0,⟨env,pB H jv nl L nr br or t1 s1 (done++ys.map Sh.v) nli LL n' bad o⟩) ∧
   (get env 2=.ptr (H.length,0) 0∧get env 4=.ptr (H.length,2) 0∧get env 6=.ptr (H.length,3) 0∧get env 7=.ptr (H.length,12) 0) ∧
   match mItems iSh l out with
   | some (xs,o')=>bad=false∧n'=LL.length∧o=o'∧eqL eqSh xs ys=true
   | none=>bad=true
 | [],n,done,t0,s0,out,hL,h0,hd=>by
  have e:n=LL.length:=by
   obtain ⟨p,hp,rfl⟩:=hL
   rw [hp]
   simp
  subst e
  obtain ⟨env,k,g⟩:=sh_stop H jv hJ nl L nr br or nli LL done LL.length false out t0 s0 (.inr rfl)
  exact ⟨env,t0,s0,[],LL.length,false,out,by simpa using k,g,by simp [mItems,eqL]⟩
 | i :: r,n,done,t0,s0,out,hL,h0,hd=>by
  obtain ⟨y,n1,r1,b1,o1,hL1,k1,s1⟩:=sh_step H jv hJ nl L nr br or nli LL hw done t0 s0 n i r out h0 hL hd
  unfold St at s1
  simp only [mItems]
  simp only [one] at s1
  cases e1:iSh i out with
  | none=>
   rw [e1] at s1
   simp only at s1
   subst s1
   obtain ⟨env,k2,g⟩:=sh_stop H jv hJ nl L nr br or nli LL (done++[y.v]) n1 true o1 127 5 (.inl rfl)
   exact ⟨env,127,5,[y],n1,true,o1,k1.trans (by simpa using k2),g,by simp⟩
  | some y1=>
   obtain ⟨x,o2⟩:=y1
   rw [e1] at s1
   obtain ⟨rfl,rfl,rfl,he⟩:=s1
   have hn1:n1=n+1:=by
    obtain ⟨p,hp,rfl⟩:=hL
    obtain ⟨p',hp',rfl⟩:=hL1
    rw [hp] at hp'
    have:=congrArg List.length hp'
    simp at this
    omega
   obtain ⟨env,t1,s1',ys,n',bad,o,ih,g,m⟩:=sh_loop H jv hJ nl L nr br or nli LL hw r n1 (done++[y.v]) 127 5 o2 hL1 (.inr ⟨rfl,rfl⟩) (by simp [hd,hn1])
   refine ⟨env,t1,s1',y :: ys,n',bad,o,k1.trans (ih.trans (by simp)),g,?_⟩
   cases e2:mItems iSh r o2 with
   | none=>
    rw [e2] at m
    simp only [e2]
    exact m
   | some y2=>
    obtain ⟨xs,b2⟩:=y2
    rw [e2] at m
    simp only [e2]
    exact ⟨m.1,m.2.1,m.2.2.1,by simp only [eqL,he,m.2.2.2];rfl⟩
end Go.Ab.WireG
/-
  The reference's GetPresentation.
-/
namespace Go.Ab.WireG
set_option maxRecDepth 100000
set_option maxHeartbeats 4000000
abbrev Pr.v (x:Pr):AV:=.agg [.lst (x.sh.l.map Sh.v),vNs x.cm,vNss x.pa,vNss x.sq,.str x.ny,.str x.se,.str x.co,vNs x.cp,.str x.es.a,.str x.es.b,.str x.p.c,vIs x.p.rs,vNs x.p.gs,vIss x.p.ls]
theorem bqs_N (l:List (List UInt8)):AV.beqs (l.map AV.str) (l.map AV.str)=true:=beqs_map (fun x=>by simp [AV.beq]) l
theorem bqs_NN (l:List (Sl (List UInt8))):AV.beqs (l.map vNs) (l.map vNs)=true:=beqs_map (fun x=>by simp only [vNs,AV.beq];exact bqs_N x.l) l
theorem bqs_I (l:List Ig):AV.beqs (l.map Ig.av) (l.map Ig.av)=true:=beqs_map (fun x=>by simp [Ig.av,iav,AV.beq,AV.beqs]) l
theorem bqs_II (l:List (Sl Ig)):AV.beqs (l.map vIs) (l.map vIs)=true:=beqs_map (fun x=>by simp only [vIs,AV.beq];exact bqs_I x.l) l
abbrev pF (h:Heap) (jv:AV) (nl:Bool) (L:List It) (n:Nat) (b o:Bool) (P A X:Blk):Heap:=[.box 75 false (.agg zPc),.box 144 false jv,RX nl L n b o,P,A,eB,eB,eB,eB,eB,eB,eB,X] :: h
abbrev pQ (h:Heap) (k:Nat) (c1 c2 c3 c4 c5 c6 c7 c8 c9 c10 c11 c12 c13:AV):Blk:=.box 75 false (.agg [.own (h.length,4) k,c1,c2,c3,c4,c5,c6,c7,c8,c9,c10,c11,c12,c13])
theorem g23 (s:List UInt8) (h:Heap):∃ y,(mu K).fn 23 [.str s] h=some (.val (.tup [orZ (gPr s).2 (.agg zPc) y.v,.int .i64 (gPr s).2]) h)∧((gPr s).2=0→eqPr (gPr s).1 y=true)∧((gPr s).2≠0→(gPr s).1=zPr):=by
 by_cases he:(dcS s).2=0
 case neg=>
  have k0:=fun h=>f42_err s kPr h he
  refine ⟨zPr,?_,fun e=>?_,fun _=>?_⟩
  ·unfold gPr
   rw [getS_err he,fn_go (KX _ _ _) fn23 rfl (by simp [c23])]
   simp [c23,KL,k0,he,orZ]
  ·unfold gPr at e
   rw [getS_err he] at e
   exact absurd e he
  ·unfold gPr
   rw [getS_err he]
 case pos=>
 have k0:=f42 s kPr [.box 75 false (.agg zPc)] h
 cases ho:opn kPr s with
 | none=>
  rw [ho] at k0
  have k0:=k0 he
  refine ⟨zPr,?_,fun e=>?_,fun _=>?_⟩
  ·unfold gPr
   rw [getS_none he ho,fn_go (KX _ _ _) fn23 rfl (by simp [c23])]
   simp [c23,KL,k0,orZ]
  ·unfold gPr at e
   rw [getS_none he ho] at e
   cases e
  ·unfold gPr
   rw [getS_none he ho]
 | some w=>
  obtain ⟨nl,L,l⟩:=w
  rw [ho] at k0
  obtain ⟨hw,⟨j,hL⟩,jv,hJ,k0⟩:=k0 he
  have hL0:Lf L 1 l:=⟨[j],hL,rfl⟩
  obtain ⟨nli,LL,b0,n0,rr,hLa,hwL,ka,i0⟩:=f71_lf (nl:=nl) (bad:=false) (out:=false) (fr:=[.box 75 false (.agg zPc),.box 144 false jv,RX nl L 1 false false,pP h 0,eB,eB,eB,eB,eB,eB,eB,eB]) (h:=h) (a:=(h.length,2)) hL0 (by simp [dom,hget]) hw
  obtain ⟨env,t1,s1',sh,nx,bx,ox,kb,⟨x2,x4,x6,x7⟩,m⟩:=sh_loop h jv hJ nl L n0 b0 false nli LL hwL LL 0 [] 0 0 false ⟨[],rfl,rfl⟩ (.inl rfl) rfl
  have hb:(bx || decide (nx < LL.length))=bx:=by
   cases e2:mItems iSh LL false with
   | none=>rw [e2] at m;simp only at m;simp [m]
   | some x=>obtain ⟨xs,o'⟩:=x;rw [e2] at m;simp [m.1,m.2.1]
  have s0a:St (sAll iSh) (eqL eqSh) LL false false sh [] bx ox:=by
   unfold St sAll
   cases e2:mItems iSh LL false with
   | none=>rw [e2] at m;exact m
   | some x=>obtain ⟨xs,o'⟩:=x;rw [e2] at m;exact ⟨rfl,m.2.2.1.symm,m.1,m.2.2.2⟩
  have s0:St (one iShs) (fun a b=>eqL eqSh a.l b.l) l false false ⟨false,sh⟩ rr (b0 || bx) ox:=by
   have:=St.inner (or_all or_Sh) i0 s0a (out:=false)
   simp only [List.isEmpty_nil,Bool.not_true,Bool.or_false,Bool.false_or] at this
   exact St.sl (y:=⟨false,sh⟩) this
  have kc:=f72 (a:=(h.length,2)) (b:=(h.length,12)) (nA:=nl) (LA:=L) (na:=n0) (badA:=b0) (outA:=false) (nB:=nli) (LB:=LL) (nb:=nx) (badB:=bx) (outB:=ox)
   (H:=pF h jv nl L n0 b0 false (pP h sh.length) (.arr t1 s1' false (sh.map Sh.v)) (RX nli LL nx bx ox)) (by simp [hget]) (by simp [hget]) (by simp)
  rw [hb] at kc
  obtain ⟨y1,n1,r1,b1,o1,hL1,k1,s1⟩:=q57.lf (nl:=nl) (bad:=b0 || bx) (out:=ox) (h:=pF h jv nl L n0 b0 false (pP h sh.length) (.arr t1 s1' false (sh.map Sh.v)) (RX nli LL nx bx ox)) (a:=(h.length,2)) hLa (by simp [dom,hget]) hw
  obtain ⟨y2,n2,r2,b2,o2,hL2,k2,s2⟩:=q73.lf (nl:=nl) (bad:=b1) (out:=o1) (h:=pF h jv nl L n0 b0 false (pP h sh.length) (.arr t1 s1' false (sh.map Sh.v)) (RX nli LL nx bx ox)) (a:=(h.length,2)) hL1 (by simp [dom,hget]) hw
  obtain ⟨y3,n3,r3,b3,o3,hL3,k3,s3⟩:=q73.lf (nl:=nl) (bad:=b2) (out:=o2) (h:=pF h jv nl L n0 b0 false (pP h sh.length) (.arr t1 s1' false (sh.map Sh.v)) (RX nli LL nx bx ox)) (a:=(h.length,2)) hL2 (by simp [dom,hget]) hw
  obtain ⟨y4,n4,r4,b4,o4,hL4,k4,s4⟩:=q50.lf (nl:=nl) (bad:=b3) (out:=o3) (h:=pF h jv nl L n0 b0 false (pQ h sh.length (vNs y1) (vNss y2) (vNss y3) (.str []) (.str []) (.str []) (.own (h.length,8) 0) (.str []) (.str []) (.str []) (.own (h.length,9) 0) (.own (h.length,10) 0) (.own (h.length,11) 0)) (.arr t1 s1' false (sh.map Sh.v)) (RX nli LL nx bx ox)) (a:=(h.length,2)) hL3 (by simp [dom,hget]) hw
  obtain ⟨y5,n5,r5,b5,o5,hL5,k5,s5⟩:=q50.lf (nl:=nl) (bad:=b4) (out:=o4) (h:=pF h jv nl L n0 b0 false (pQ h sh.length (vNs y1) (vNss y2) (vNss y3) (.str []) (.str []) (.str []) (.own (h.length,8) 0) (.str []) (.str []) (.str []) (.own (h.length,9) 0) (.own (h.length,10) 0) (.own (h.length,11) 0)) (.arr t1 s1' false (sh.map Sh.v)) (RX nli LL nx bx ox)) (a:=(h.length,2)) hL4 (by simp [dom,hget]) hw
  obtain ⟨y6,n6,r6,b6,o6,hL6,k6,s6⟩:=q50.lf (nl:=nl) (bad:=b5) (out:=o5) (h:=pF h jv nl L n0 b0 false (pQ h sh.length (vNs y1) (vNss y2) (vNss y3) (.str []) (.str []) (.str []) (.own (h.length,8) 0) (.str []) (.str []) (.str []) (.own (h.length,9) 0) (.own (h.length,10) 0) (.own (h.length,11) 0)) (.arr t1 s1' false (sh.map Sh.v)) (RX nli LL nx bx ox)) (a:=(h.length,2)) hL5 (by simp [dom,hget]) hw
  obtain ⟨y7,n7,r7,b7,o7,hL7,k7,s7⟩:=q57.lf (nl:=nl) (bad:=b6) (out:=o6) (h:=pF h jv nl L n0 b0 false (pQ h sh.length (vNs y1) (vNss y2) (vNss y3) (.str []) (.str []) (.str []) (.own (h.length,8) 0) (.str []) (.str []) (.str []) (.own (h.length,9) 0) (.own (h.length,10) 0) (.own (h.length,11) 0)) (.arr t1 s1' false (sh.map Sh.v)) (RX nli LL nx bx ox)) (a:=(h.length,2)) hL6 (by simp [dom,hget]) hw
  obtain ⟨y8,n8,r8,b8,o8,hL8,k8,s8⟩:=q65_lf (nl:=nl) (bad:=b7) (out:=o7) (h:=pF h jv nl L n0 b0 false (pQ h sh.length (vNs y1) (vNss y2) (vNss y3) (.str y4) (.str y5) (.str y6) (vNs y7) (.str []) (.str []) (.str []) (.own (h.length,9) 0) (.own (h.length,10) 0) (.own (h.length,11) 0)) (.arr t1 s1' false (sh.map Sh.v)) (RX nli LL nx bx ox)) (a:=(h.length,2)) hL7 (by simp [dom,hget]) hw
  obtain ⟨y9,n9,r9,b9,o9,hL9,k9,s9⟩:=q51.lf (nl:=nl) (bad:=b8) (out:=o8) (h:=pF h jv nl L n0 b0 false (pQ h sh.length (vNs y1) (vNss y2) (vNss y3) (.str y4) (.str y5) (.str y6) (vNs y7) (.str y8.a) (.str y8.b) (.str []) (.own (h.length,9) 0) (.own (h.length,10) 0) (.own (h.length,11) 0)) (.arr t1 s1' false (sh.map Sh.v)) (RX nli LL nx bx ox)) (a:=(h.length,2)) hL8 (by simp [dom,hget]) hw
  have kE:=f45_lf (nl:=nl) (bad:=b9) (out:=o9) (h:=pF h jv nl L n0 b0 false (pQ h sh.length (vNs y1) (vNss y2) (vNss y3) (.str y4) (.str y5) (.str y6) (vNs y7) (.str y8.a) (.str y8.b) (.str y9.c) (vIs y9.rs) (vNs y9.gs) (vIss y9.ls)) (.arr t1 s1' false (sh.map Sh.v)) (RX nli LL nx bx ox)) (a:=(h.length,2)) hL9 (by simp [dom,hget])
  have st:St sPr eqPr l false false ⟨⟨false,sh⟩,y1,y2,y3,y4,y5,y6,y7,y8,y9⟩ r9 b9 o9:=
   s0.bind (fun e=>s9.mono (s8.mono (s7.mono (s6.mono (s5.mono (s4.mono (s3.mono (s2.mono (s1.mono e))))))))) fun x0 q0=>
   s1.bind (fun e=>s9.mono (s8.mono (s7.mono (s6.mono (s5.mono (s4.mono (s3.mono (s2.mono e)))))))) fun x1 q1=>
   s2.bind (fun e=>s9.mono (s8.mono (s7.mono (s6.mono (s5.mono (s4.mono (s3.mono e))))))) fun x2 q2=>
   s3.bind (fun e=>s9.mono (s8.mono (s7.mono (s6.mono (s5.mono (s4.mono e)))))) fun x3 q3=>
   s4.bind (fun e=>s9.mono (s8.mono (s7.mono (s6.mono (s5.mono e))))) fun x4 q4=>
   s5.bind (fun e=>s9.mono (s8.mono (s7.mono (s6.mono e)))) fun x5 q5=>
   s6.bind (fun e=>s9.mono (s8.mono (s7.mono e))) fun x6 q6=>
   s7.bind (fun e=>s9.mono (s8.mono e)) fun x7 q7=>
   s8.bind (fun e=>s9.mono e) fun x8 q8=>
   s9.bind (fun e=>e) fun x9 q9=>St.ret (and2 q0 (and2 q1 (and2 q2 (and2 q3 (and2 q4 (and2 q5 (and2 q6 (and2 q7 (and2 q8 q9))))))))) _ _ _
  obtain ⟨g1,g2,g3⟩:=getS_St (z:=zPr) he ho st
  refine ⟨⟨⟨false,sh⟩,y1,y2,y3,y4,y5,y6,y7,y8,y9⟩,?_,fun e=>g2 (g1.symm.trans e),fun e=>g3 (fun e2=>e (g1.trans e2))⟩
  unfold gPr
  rw [g1]
  have bN:=bqs_N
  have bNN:=bqs_NN
  have bI:=bqs_I
  have bII:=bqs_II
  simp only [hset,if_true,List.set_cons_succ,List.set_cons_zero,List.cons_append,List.nil_append,List.length_cons,List.length_nil,Nat.zero_add,Nat.reduceAdd,List.map_nil,pF,pB] at k0 ka kb kc k1 k2 k3 k4 k5 k6 k7 k8 k9 kE
  simp only [RX,Int.natCast_one,Int.natCast_zero,Bool.false_or] at k0 ka kb kc k1 k2 k3 k4 k5 k6 k7 k8 k9 kE
  rw [fn_go (KX _ _ _) fn23 rfl (by simp [c23])]
  by_cases hc:endC b9 r9 o9=0
  ·simp [c23,KL,k0,ka,kb,kc,x2,x4,x6,x7,k1,k2,k3,k4,k5,k6,k7,k8,k9,kE,hc,orZ,bN,bNN,bI,bII,hJ]
  ·simp [c23,KL,k0,ka,kb,kc,x2,x4,x6,x7,k1,k2,k3,k4,k5,k6,k7,k8,k9,kE,hc,orZ,bN,bNN,bI,bII,hJ]
end Go.Ab.WireG
/-
  All Gets agree with the reference.
-/
namespace Go.Ab.WireG
set_option maxRecDepth 100000
set_option maxHeartbeats 4000000
theorem eqL_r {α:Type} {e:α→α→Bool} {z:α→α} (H:∀ x y,e x (z y)=e x y):∀ l m:List α,eqL e l (m.map z)=eqL e l m
 | [],[]=>rfl
 | [],_ :: _=>rfl
 | _ :: _,[]=>rfl
 | x :: l,y :: m=>by simp only [List.map_cons,eqL,H x y,eqL_r H l m]
theorem eNs (a b:Sl (List UInt8)):eqNs a (b.z id)=eqNs a b:=eqL_r (fun _ _=>rfl) _ _
theorem eIs (a b:Sl Ig):eqIs a (b.z id)=eqIs a b:=eqL_r (fun _ _=>rfl) _ _
theorem eNss (a b:Sl (Sl (List UInt8))):eqNss a (b.z (Sl.z id))=eqNss a b:=eqL_r eNs _ _
theorem ePf (a b:Pf):eqPf a b.z=eqPf a b:=by
 simp only [eqPf,Pf.z]
 rw [eIs,eNs]
 rw [show eqL eqIs a.ls.l (b.ls.z (Sl.z id)).l=eqL eqIs a.ls.l b.ls.l from eqL_r eIs _ _]
theorem eSh (a b:Sh):eqSh a b.z=eqSh a b:=by
 simp only [eqSh,Sh.z]
 rw [eNs]
 rfl
theorem vNs_z (x:Sl (List UInt8)):avNs (x.z id)=vNs x:=by
 show lv false ((x.l.map id).map AV.str)=_
 rw [lv_false,List.map_id]
theorem vIs_z (x:Sl Ig):avIs (x.z id)=vIs x:=by
 show lv false ((x.l.map id).map Ig.av)=_
 rw [lv_false,List.map_id]
theorem vNss_z (x:Sl (Sl (List UInt8))):avNss (x.z (Sl.z id))=vNss x:=by
 simp only [avNss,Sl.avS,Sl.z,lv_false,List.map_map,vNss]
 congr 1
 apply List.map_congr_left
 intro y _
 exact vNs_z y
theorem vIss_z (x:Sl (Sl Ig)):avIss (x.z (Sl.z id))=vIss x:=by
 simp only [avIss,Sl.avS,Sl.z,lv_false,List.map_map,vIss]
 congr 1
 apply List.map_congr_left
 intro y _
 exact vIs_z y
theorem vSh_z (x:Sh):Sh.av x.z=x.v:=by
 simp only [Sh.av,Sh.cs,Sh.z,Sh.v,vNs_z]
theorem vShs_z (x:Sl Sh):avShs (x.z Sh.z)=.lst (x.l.map Sh.v):=by
 simp only [avShs,Sl.avS,Sl.z,lv_false,List.map_map]
 congr 1
 apply List.map_congr_left
 intro y _
 exact vSh_z y
theorem r9 (s:List UInt8) (h:Heap):(mu K).fn 9 [.str s] h=some (.val (.tup [(gQu s).1.av,.int .i64 (gQu s).2]) h):=by
 obtain ⟨y,k,e1,e2⟩:=g9 s h
 rw [k]
 by_cases hc:(gQu s).2=0
 ·have e:=e1 hc
  simp only [eqQu,eqB,eqZ,Bool.and_eq_true,decide_eq_true_eq] at e
  obtain ⟨q1,q2,q3,q4,q5⟩:=e
  simp [orZ,hc,Qu.av,Qu.cs,q1,q2,q3,q4,q5]
 ·have e:=e2 hc
  simp [orZ,hc,e,zQu]
theorem r11 (s:List UInt8) (h:Heap):∃ b:Rq,(mu K).fn 11 [.str s] h=some (.val (.tup [b.av,.int .i64 (gRq s).2]) h)∧eqRq (gRq s).1 b=true:=by
 obtain ⟨y,k,e1,e2⟩:=g11 s h
 by_cases hc:(gRq s).2=0
 ·refine ⟨y.z,?_,?_⟩
  ·rw [k,orZ,if_pos hc]
   simp only [Rq.av,Rq.cs,Rq.z,Pf.z,vIs_z,vNs_z,vIss_z]
  ·rw [←e1 hc]
   simp only [eqRq,Rq.z,ePf]
 ·refine ⟨zRq,?_,?_⟩
  ·rw [k,orZ,if_neg hc]
   rfl
  ·rw [e2 hc]
   decide
theorem r14 (s:List UInt8) (h:Heap):∃ b:Rs,(mu K).fn 14 [.str s] h=some (.val (.tup [b.av,.int .i64 (gRs s).2]) h)∧eqRs (gRs s).1 b=true:=by
 obtain ⟨y,k,e1,e2⟩:=g14 s h
 by_cases hc:(gRs s).2=0
 ·refine ⟨y.z,?_,?_⟩
  ·rw [k,orZ,if_pos hc]
   simp only [Rs.av,Rs.cs,Rs.z,vNs_z]
  ·rw [←e1 hc]
   simp only [eqRs,Rs.z,eNs]
   rfl
 ·refine ⟨zRs,?_,?_⟩
  ·rw [k,orZ,if_neg hc]
   rfl
  ·rw [e2 hc]
   decide
theorem r17 (s:List UInt8) (h:Heap):∃ b:Hd,(mu K).fn 17 [.str s] h=some (.val (.tup [b.av,.int .i64 (gHd s).2]) h)∧eqHd (gHd s).1 b=true:=by
 obtain ⟨y,k,e1,e2⟩:=g17 s h
 by_cases hc:(gHd s).2=0
 ·refine ⟨y.z,?_,?_⟩
  ·rw [k,orZ,if_pos hc]
   simp only [Hd.av,Hd.cs,Hd.z,vNs_z]
  ·rw [←e1 hc]
   simp only [eqHd,Hd.z,eNs]
   rfl
 ·refine ⟨zHd,?_,?_⟩
  ·rw [k,orZ,if_neg hc]
   rfl
  ·rw [e2 hc]
   decide
theorem r20 (s:List UInt8) (h:Heap):∃ b:Dl,(mu K).fn 20 [.str s] h=some (.val (.tup [b.av,.int .i64 (gDl s).2]) h)∧eqDl (gDl s).1 b=true:=by
 obtain ⟨y,k,e1,e2⟩:=g20 s h
 by_cases hc:(gDl s).2=0
 ·refine ⟨y.z,?_,?_⟩
  ·rw [k,orZ,if_pos hc]
   simp only [Dl.av,Dl.cs,Dl.z,vNs_z]
  ·rw [←e1 hc]
   simp only [eqDl,Dl.z,eNs]
   rfl
 ·refine ⟨zDl,?_,?_⟩
  ·rw [k,orZ,if_neg hc]
   rfl
  ·rw [e2 hc]
   decide
theorem r23 (s:List UInt8) (h:Heap):∃ b:Pr,(mu K).fn 23 [.str s] h=some (.val (.tup [b.av,.int .i64 (gPr s).2]) h)∧eqPr (gPr s).1 b=true:=by
 obtain ⟨y,k,e1,e2⟩:=g23 s h
 by_cases hc:(gPr s).2=0
 ·refine ⟨y.z,?_,?_⟩
  ·rw [k,orZ,if_pos hc]
   simp only [Pr.av,Pr.cs,Pr.z,Pf.z,vIs_z,vNs_z,vIss_z,vNss_z,vShs_z]
  ·rw [←e1 hc]
   simp only [eqPr,Pr.z,eNs,eNss,ePf]
   rw [show eqL eqSh (gPr s).1.sh.l (y.sh.z Sh.z).l=eqL eqSh (gPr s).1.sh.l y.sh.l from eqL_r eSh _ _]
 ·refine ⟨zPr,?_,?_⟩
  ·rw [k,orZ,if_neg hc]
   rfl
  ·rw [e2 hc]
   decide
theorem z11 (s:List UInt8) (hs:s.length≤3000):wts (rRq (gRq s).1)≤900000:=by
 by_cases e:(gRq s).2=0
 ·exact put_sz (by rw [←put_Rq e];rfl) hs
 ·obtain ⟨y,_,_,e2⟩:=g11 s []
  rw [e2 e]
  decide
theorem z14 (s:List UInt8) (hs:s.length≤3000):wts (rRs (gRs s).1)≤900000:=by
 by_cases e:(gRs s).2=0
 ·exact put_sz (by rw [←put_Rs e];rfl) hs
 ·obtain ⟨y,_,_,e2⟩:=g14 s []
  rw [e2 e]
  decide
theorem z17 (s:List UInt8) (hs:s.length≤3000):wts (rHd (gHd s).1)≤900000:=by
 by_cases e:(gHd s).2=0
 ·exact put_sz (by rw [←put_Hd e];rfl) hs
 ·obtain ⟨y,_,_,e2⟩:=g17 s []
  rw [e2 e]
  decide
theorem z20 (s:List UInt8) (hs:s.length≤3000):wts (rDl (gDl s).1)≤900000:=by
 by_cases e:(gDl s).2=0
 ·exact put_sz (by rw [←put_Dl e];rfl) hs
 ·obtain ⟨y,_,_,e2⟩:=g20 s []
  rw [e2 e]
  decide
theorem z23 (s:List UInt8) (hs:s.length≤3000):wts (rPr (gPr s).1)≤900000:=by
 by_cases e:(gPr s).2=0
 ·exact put_sz (by rw [←put_Pr e];rfl) hs
 ·obtain ⟨y,_,_,e2⟩:=g23 s []
  rw [e2 e]
  decide
theorem law3 (s:List UInt8):(mu K).fn 3 [.str s] []=some (.val (.bool true) []):=by
 by_cases hl:(3000:Int) < (s.length:Int)
 ·rw [fn_go (KX _ _ _) fn3 rfl (by simp [c3])]
  simp [c3,KL,hl,awake]
 have hl2:s.length≤3000:=by omega
 have k8:=fun h=>f8 s h
 have k9:=fun h=>r9 s h
 have k10:=fun h=>f10 s h
 have k13:=fun h=>f13 s h
 have k16:=fun h=>f16 s h
 have k19:=fun h=>f19 s h
 have k22:=fun h=>f22 s h
 obtain ⟨b11,k11⟩:=Classical.axiomOfChoice (fun h=>r11 s h)
 obtain ⟨b14,k14⟩:=Classical.axiomOfChoice (fun h=>r14 s h)
 obtain ⟨b17,k17⟩:=Classical.axiomOfChoice (fun h=>r17 s h)
 obtain ⟨b20,k20⟩:=Classical.axiomOfChoice (fun h=>r20 s h)
 obtain ⟨b23,k23⟩:=Classical.axiomOfChoice (fun h=>r23 s h)
 have e12:=fun q h=>(f12 (gRq s).1 (b11 q) (by have:=z11 s hl2;omega) h).trans (by rw [(k11 q).2])
 have e15:=fun q h=>(f15 (gRs s).1 (b14 q) (by have:=z14 s hl2;omega) h).trans (by rw [(k14 q).2])
 have e18:=fun q h=>(f18 (gHd s).1 (b17 q) (by have:=z17 s hl2;omega) h).trans (by rw [(k17 q).2])
 have e21:=fun q h=>(f21 (gDl s).1 (b20 q) (by have:=z20 s hl2;omega) h).trans (by rw [(k20 q).2])
 have e24:=fun q h=>(f24 (gPr s).1 (b23 q) (by have:=z23 s hl2;omega) h).trans (by rw [(k23 q).2])
 have k11:=fun h=>(k11 h).1
 have k14:=fun h=>(k14 h).1
 have k17:=fun h=>(k17 h).1
 have k20:=fun h=>(k20 h).1
 have k23:=fun h=>(k23 h).1
 generalize gQu s=XQu at *
 generalize gRq s=XRq at *
 generalize gRs s=XRs at *
 generalize gHd s=XHd at *
 generalize gDl s=XDl at *
 generalize gPr s=XPr at *
 have eQ:∀ x:Qu,eqFs [FK.str,FK.str,FK.str,FK.int,FK.int] x.cs x.cs=some true:=fun x=>by simp [eqF,eqFs]
 rw [fn_go (KX _ _ _) fn3 rfl (by simp [c3])]
 simp [c3,KL,hl,awake,eQ,k8,k9,k10,k11,k13,k14,k16,k17,k19,k20,k22,k23,e12,e15,e18,e21,e24]
end Go.Ab.WireG
