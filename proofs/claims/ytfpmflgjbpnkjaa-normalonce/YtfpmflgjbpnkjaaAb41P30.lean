/-
  Tidy: the program's function.
-/
import Derived.Test.YtfpmflgjbpnkjaaAb41P29
set_option linter.unusedVariables false
set_option linter.unusedSimpArgs false
set_option linter.unusedSectionVars false
namespace Go.Ab.Pl
open Go.Ab.Pol
set_option maxRecDepth 100000
set_option maxHeartbeats 2000000
theorem iter_app {α β ρ:Type} (g:α→β):∀ (l:List α) (b:List β),iter (fun (b:List β) (x:α)=>(.inl (b++[g x]):List β ⊕ ρ)) b l=.inl (b++l.map g)
 | [],b=>by simp [iter]
 | x :: l,b=>by simp [iter,iter_app g l]
theorem l31 (L:List Nat) (n:Nd) (ks:List Tr) (hk:n.kids.l=ks.map fun k=>(k.i:Int)) (hm:∀ k∈ks,k.i∈L) (hlen:n.kids.l.length≤1000) (B0 B1 B3 B4:Blk) (V:AV) (len i:Int) (h:Heap) :
  ∃ env,(mu K).code (.loopAt 7 [1,2,6,9,12,47,48,49,64,65,66] l31_1) ⟨[(1,.ptr (h.length,0) 0),(2,.ptr (h.length,1) 0),(6,.mp (h.length,2)),(9,.ptr (h.length,3) 0),(12,.ptr (h.length,5) 0),(47,V),(48,iV len),(49,iV i),(64,n.kids.avS iV),(65,iV (n.kids.l.length:Int)),(66,iV 0)],
   [B0,B1,.map (numG 0 L),B3,B4,.box 45 false (.agg [iV n.k,iV n.num,.str n.nm,.str n.attr,.own (h.length,6) 0,iV n.pos]),.arr 0 0 false []] :: h⟩ =
   some (.exit 4,⟨env,[B0,B1,.map (numG 0 L),B3,B4,.box 45 false (.agg [iV n.k,iV n.num,.str n.nm,.str n.attr,.own (h.length,6) ks.length,iV n.pos]),ordB (ks.map fun k=>((L.idxOf k.i:Nat):Int))] :: h⟩) ∧
   get env 1=.ptr (h.length,0) 0∧get env 2=.ptr (h.length,1) 0∧get env 6=.mp (h.length,2)∧get env 9=.ptr (h.length,3) 0∧get env 12=.ptr (h.length,5) 0∧get env 47=V∧get env 48=iV len∧get env 49=iV i:=by
 have hlk:n.kids.l.length=ks.length:=by rw [hk];simp
 have key:=loop_iter (K:=K) (n:=7) (live:=[1,2,6,9,12,47,48,49,64,65,66]) (a:=l31_1) (ρ:=Unit) (fun (b:List Int) (k:Tr)=>.inl (b++[((L.idxOf k.i:Nat):Int)]))
  (fun pre b=>⟨[(1,.ptr (h.length,0) 0),(2,.ptr (h.length,1) 0),(6,.mp (h.length,2)),(9,.ptr (h.length,3) 0),(12,.ptr (h.length,5) 0),(47,V),(48,iV len),(49,iV i),(64,n.kids.avS iV),(65,iV (n.kids.l.length:Int)),(66,iV (pre.length:Int))],
   [B0,B1,.map (numG 0 L),B3,B4,.box 45 false (.agg [iV n.k,iV n.num,.str n.nm,.str n.attr,.own (h.length,6) b.length,iV n.pos]),ordB b] :: h⟩) (fun pre b=>b.length=pre.length)
  (fun b o=>∃ env,o=some (.exit 4,⟨env,[B0,B1,.map (numG 0 L),B3,B4,.box 45 false (.agg [iV n.k,iV n.num,.str n.nm,.str n.attr,.own (h.length,6) b.length,iV n.pos]),ordB b] :: h⟩) ∧
   get env 1=.ptr (h.length,0) 0∧get env 2=.ptr (h.length,1) 0∧get env 6=.mp (h.length,2)∧get env 9=.ptr (h.length,3) 0∧get env 12=.ptr (h.length,5) 0∧get env 47=V∧get env 48=iV len∧get env 49=iV i)
  (fun _ _=>False) ks
  (fun pre x r b hl' hb=>by
   obtain ⟨h1,h2,w1⟩:=idx_facts hl' (by omega)
   have g2:n.kids.l[pre.length]?=some (x.i:Int):=by rw [hk,List.getElem?_map,h2];rfl
   have hix:=fun (k:IntKind)=>iaF_sl (av:=iV) (sz:=1) (s:=n.kids) (k:=k) (j:=(pre.length:Int)) (x:=(x.i:Int)) (by omega) (by simpa using g2) rfl
   have lk:=look_num x.i L 0 (hm x (by rw [hl'];simp))
   rw [Nat.zero_add] at lk
   have hlen2:ks.length=pre.length+(r.length+1):=by rw [hl'];simp
   obtain ⟨ot,oz,ho,hz⟩:=ordB_at b
   have ho2:=ordB_snoc b ((L.idxOf x.i:Nat):Int)
   have r1:(pre.length+1) * 8≤room:=by unfold room;omega
   have r2:pre.length+1≤room:=by unfold room;omega
   have h1':((pre.length:Int) < (n.kids.l.length:Int)):=by rw [hlk];exact h1
   rw [loop_go]
   generalize (mu K).code (.loopAt 7 [1,2,6,9,12,47,48,49,64,65,66] l31_1)=F
   generalize L.idxOf x.i=z at *
   generalize numG 0 L=N at *
   clear hl'
   refine ⟨fun b' e=>?_,fun _ e=>by cases e⟩
   injection e with e
   subst e
   refine ⟨by simp [hb],?_⟩
   simp [l31_1,KL,lendF,h1',hix,w1,lk,ho,ho2,hz,r1,r2,hb,eqK,eqF])
  (fun b _=>by
   rw [loop_go]
   generalize (mu K).code (.loopAt 7 [1,2,6,9,12,47,48,49,64,65,66] l31_1)=F
   simp [l31_1,hlk]) [] rfl
 rw [iter_app] at key
 simp only [List.nil_append,List.length_nil,Int.natCast_zero,List.length_map] at key
 exact key.2
theorem sz_tidy {p:Po} (hp:Sz p) {t:Tr} (ht:IsT p.nodes.l t) (hn:t.pre.length≤1000):Sz (tidyP p t.pre):=by
 refine ⟨hp.name,hp.scope,hp.escrow,hp.uses,hp.reveal,?_,?_⟩
 ·simp only [tidyP,tidyNs,List.length_map];exact hn
 ·intro n hm
  simp only [tidyP] at hm
  rw [tidy_subs ht] at hm
  obtain ⟨s,hs,rfl⟩:=List.mem_map.1 hm
  have:=hp.nodes.2 s.n (List.mem_of_getElem? (sub_node (subs_isT ht s hs)).1)
  exact ⟨this.1,by simpa [Nd.mv] using this.2⟩
theorem f31t (p:Po) (hp:Sz p) (t:Tr) (hr:rea p.nodes.l (p.nodes.l.length+1) p.root []=(true,ints t.pre)) (ht:IsT p.nodes.l t) (hn:t.pre.Nodup) (h:Heap) :
  (mu K).fn 31 [p.av] h=some (.val (.tup [(tidyR p t.pre).1.av,.int .i64 (tidyR p t.pre).2]) h):=by
 have k79:=fun h=>f79 p hp.nodes h
 rw [hr] at k79
 simp only at k79
 have hpl:t.pre.length≤1000:=by
  have:=in_rea p.nodes.l (p.nodes.l.length+1) p.root [] ⟨by simp,by simp⟩
  rw [hr] at this
  have h1:=this.1.len
  have h2:=hp.nodes.1
  simp at h1
  omega
 have hML:(ints t.pre).map iV=t.pre.map fun (j:Nat)=>iV (j:Int):=by simp
 rw [hML] at k79
 have hll:(t.pre.map fun (j:Nat)=>iV (j:Int)).length=t.pre.length:=by simp
 have key0:=loop_iter (K:=K) (n:=3) (live:=[1,2,4,6,25,26,27]) (a:=l31_0) (ρ:=Unit) (fun (b:List Nat) (x:Nat)=>.inl (b++[id x]))
  (fun pre b=>⟨[(1,.ptr (h.length,0) 0),(2,.ptr (h.length,1) 0),(4,.lst (t.pre.map fun (j:Nat)=>iV (j:Int))),(6,.mp (h.length,2)),(25,.lst (t.pre.map fun (j:Nat)=>iV (j:Int))),(26,iV (t.pre.length:Int)),(27,iV (pre.length:Int))],
   [.box 26 false p.av,.box 26 false zPo.av,.map (numG 0 b)] :: h⟩) (fun pre b=>b=pre)
  (fun b o=>∃ env,o=some (.exit 0,⟨env,[.box 26 false p.av,.box 26 false zPo.av,.map (numG 0 b)] :: h⟩)∧get env 1=.ptr (h.length,0) 0∧get env 2=.ptr (h.length,1) 0∧get env 4=.lst (t.pre.map fun (j:Nat)=>iV (j:Int))∧get env 6=.mp (h.length,2))
  (fun _ _=>False) t.pre
  (fun pre x r b hl' hb=>by
   obtain ⟨h1,h2,w1⟩:=idx_facts hl' (by omega)
   have hix:=fun (k:IntKind)=>iaF_lst (sz:=1) (l:=t.pre.map fun (j:Nat)=>iV (j:Int)) (k:=k) (j:=(pre.length:Int)) (v:=iV (x:Int)) (by omega) (by rw [Int.toNat_natCast,List.getElem?_map,h2];rfl) rfl
   have hx:x∉pre:=fun q=>by
    rw [hl'] at hn
    exact (List.nodup_append.1 hn).2.2 x q x (by simp) rfl
   have uk:=upd_num x pre 0 hx
   rw [Nat.zero_add] at uk
   subst hb
   rw [loop_go]
   generalize (mu K).code (.loopAt 3 [1,2,4,6,25,26,27] l31_0)=F
   generalize (t.pre.map fun (j:Nat)=>iV (j:Int))=M at *
   clear hl'
   refine ⟨fun b' e=>?_,fun _ e=>by cases e⟩
   injection e with e
   subst e
   refine ⟨rfl,?_⟩
   simp [l31_0,KL,lendF,h1,hix,w1,uk,eqK,eqF])
  (fun b _=>by
   rw [loop_go]
   generalize (mu K).code (.loopAt 3 [1,2,4,6,25,26,27] l31_0)=F
   generalize (t.pre.map fun (j:Nat)=>iV (j:Int))=M at *
   simp [l31_0,hll]) [] rfl
 rw [iter_app] at key0
 simp only [List.nil_append,List.length_nil,Int.natCast_zero,List.map_id] at key0
 obtain ⟨_,env0,a0,a1,a2,a4,a6⟩:=key0
 have hsl:t.subs.length=t.pre.length:=by rw [pre_subs];simp
 have hMS:(t.pre.map fun (j:Nat)=>iV (j:Int))=t.subs.map fun (s:Tr)=>iV (s.i:Int):=by rw [pre_subs,List.map_map];rfl
 have key1:=loop_iter (K:=K) (n:=5) (live:=[1,2,6,9,47,48,49]) (a:=l31_2) (ρ:=Unit) (fun (b:List Nd) (s:Tr)=>.inl (b++[s.n.mv fun k=>t.pre.idxOf k]))
  (fun pre b=>⟨[(1,.ptr (h.length,0) 0),(2,.ptr (h.length,1) 0),(6,.mp (h.length,2)),(9,.ptr (h.length,3) 0),(47,.lst (t.pre.map fun (j:Nat)=>iV (j:Int))),(48,iV (t.pre.length:Int)),(49,iV (pre.length:Int))],
   [.box 26 false p.av,.box 26 false zPo.av,.map (numG 0 t.pre),.box 26 false (.agg [.str p.name,p.uses.avS Us.av,p.reveal.avS Rf.av,.own (h.length,4) b.length,iV 0,.str p.scope,iV p.limit,.str p.escrow]),arrN b] :: h⟩) (fun pre b=>b.length=pre.length)
  (fun b o=>∃ env,o=some (.exit 2,⟨env,[.box 26 false p.av,.box 26 false zPo.av,.map (numG 0 t.pre),.box 26 false (.agg [.str p.name,p.uses.avS Us.av,p.reveal.avS Rf.av,.own (h.length,4) b.length,iV 0,.str p.scope,iV p.limit,.str p.escrow]),arrN b] :: h⟩) ∧
   get env 2=.ptr (h.length,1) 0∧get env 9=.ptr (h.length,3) 0)
  (fun _ _=>False) t.subs
  (fun pre x r b hl' hb=>by
   obtain ⟨h1,h2,w1⟩:=idx_facts hl' (by omega)
   have hxm:x∈t.subs:=by rw [hl'];simp
   obtain ⟨hxn,hxk⟩:=sub_node (subs_isT ht x hxm)
   have hkl:=(hp.nodes.2 x.n (List.mem_of_getElem? hxn)).2
   have hix:=fun (k:IntKind)=>iaF_lst (sz:=1) (l:=t.pre.map fun (j:Nat)=>iV (j:Int)) (k:=k) (j:=(pre.length:Int)) (v:=iV (x.i:Int)) (by omega) (by rw [Int.toNat_natCast,hMS,List.getElem?_map,h2];rfl) rfl
   have hiy:=fun (k:IntKind)=>iaF_sl (av:=Nd.av) (sz:=6) (s:=p.nodes) (k:=k) (j:=(x.i:Int)) (x:=x.n) (by omega) (by simpa using hxn) rfl
   obtain ⟨env,k,g1,g2,g6,g9,g12,g47,g48,g49⟩:=l31 t.pre x.n x.ks hxk (fun k hk=>kids_pre t x hxm k hk) hkl (.box 26 false p.av) (.box 26 false zPo.av)
    (.box 26 false (.agg [.str p.name,p.uses.avS Us.av,p.reveal.avS Rf.av,.own (h.length,4) b.length,iV 0,.str p.scope,iV p.limit,.str p.escrow])) (arrN b) (.lst (t.pre.map fun (j:Nat)=>iV (j:Int))) (t.pre.length:Int) (pre.length:Int) h
   have hlen2:t.subs.length=pre.length+(r.length+1):=by rw [hl'];simp
   have hmv:(x.n.mv fun k=>t.pre.idxOf k).kids=⟨false,x.ks.map fun k=>((t.pre.idxOf k.i:Nat):Int)⟩:=by
    simp only [Nd.mv,hxk,List.map_map]
    congr 1
   have hmav:(x.n.mv fun k=>t.pre.idxOf k).av=.agg [iV x.n.k,iV x.n.num,.str x.n.nm,.str x.n.attr,.lst ((x.ks.map fun k=>((t.pre.idxOf k.i:Nat):Int)).map iV),iV x.n.pos]:=by
    simp only [Nd.av,Nd.cs,hmv,Sl.avS,lv_false]
    rfl
   have hkl2:x.ks.length=(x.ks.map fun k=>((t.pre.idxOf k.i:Nat):Int)).length:=by simp
   have nr:=fun p=>num_refOk p t.pre 0
   generalize (x.ks.map fun k=>((t.pre.idxOf k.i:Nat):Int))=KS at *
   obtain ⟨ot,oz,ho,hz⟩:=ordB_at KS
   rw [ho] at k
   rw [hkl2] at k
   rw [hb] at k
   have r1:(pre.length+1) * 80≤room:=by unfold room;omega
   have r2:pre.length+1≤room:=by unfold room;omega
   have h1':((pre.length:Int) < (t.pre.length:Int)):=by rw [←hsl];exact h1
   refine ⟨fun b' e=>?_,fun _ e=>by cases e⟩
   injection e with e
   subst e
   refine ⟨by simp [hb],?_⟩
   rw [loop_go]
   generalize (mu K).code (.loopAt 5 [1,2,6,9,47,48,49] l31_2)=F
   generalize (t.pre.map fun (j:Nat)=>iV (j:Int))=M at *
   generalize numG 0 t.pre=N at *
   clear hl'
   unfold arrN at k ⊢
   by_cases hbe:b=[]
   ·have d:(b=[])=True:=by simp [hbe]
    have hp0:pre.length=0:=by rw [←hb,hbe];rfl
    simp only [d,if_true] at k
    simp [-List.all_eq_true,l31_2,KL,lendF,h1',hix,hiy,w1,k,g1,g2,g6,g9,g12,g47,g48,g49,hmav,r1,r2,hb,d,hz,nr]
   ·simp only [hbe,if_false] at k
    simp [-List.all_eq_true,l31_2,KL,lendF,h1',hix,hiy,w1,k,g1,g2,g6,g9,g12,g47,g48,g49,hmav,r1,r2,hb,hbe,hz,nr])
  (fun b _=>by
   rw [loop_go]
   generalize (mu K).code (.loopAt 5 [1,2,6,9,47,48,49] l31_2)=F
   generalize (t.pre.map fun (j:Nat)=>iV (j:Int))=M at *
   simp [l31_2,hsl]) [] rfl
 rw [iter_app,List.nil_append,←tidy_subs ht] at key1
 simp only [List.length_nil,Int.natCast_zero] at key1
 obtain ⟨_,env1,b0,b2,b9⟩:=key1
 have hsz:=sz_tidy hp ht hpl
 have k24:=fun h=>f24 (tidyP p t.pre) hsz h
 have k80:=fun h=>f80 p.uses hp.uses.1 h
 have k81:=fun h=>f81 p.reveal hp.reveal.1 h
 have hav:(tidyP p t.pre).av=.agg [.str p.name,p.uses.avS Us.av,p.reveal.avS Rf.av,.lst ((tidyNs p.nodes.l t.pre).map Nd.av),iV 0,.str p.scope,iV p.limit,.str p.escrow]:=by simp [tidyP,Sl.avS]
 rw [hav] at k24
 have hz0:zPo.av=.agg [.str [],.nils,.nils,.nils,iV 0,.str [],iV 0,.str []]:=rfl
 rw [hz0] at a0 b0
 have hne:tidyNs p.nodes.l t.pre≠[]:=by
  rw [tidy_subs ht]
  cases t with
  | nd i n ks=>simp [Tr.subs]
 unfold arrN at b0
 simp only [if_true,hne,if_false,List.map_nil] at b0
 have q1:=beq_avS _ beq_us p.uses
 have q2:=beq_avS _ beq_rf p.reveal
 have q3:=beq_avS _ beq_nd p.nodes
 unfold tidyR
 rw [fn_go (KX _ _ _) fn31 rfl (by simp [c31])]
 generalize (t.pre.map fun (j:Nat)=>iV (j:Int))=M at *
 generalize numG 0 t.pre=N at *
 have hn0:numG 0 []=[]:=rfl
 rw [hn0] at a0
 have hQ:((tidyNs p.nodes.l t.pre).map Nd.av).length=(tidyNs p.nodes.l t.pre).length:=by simp
 generalize (tidyNs p.nodes.l t.pre).length=T at *
 by_cases hc:chk (tidyP p t.pre)=0
 ·rw [if_pos hc]
  rw [hc] at k24
  simp only [hav]
  generalize (tidyNs p.nodes.l t.pre).map Nd.av=Q at *
  simp [c31,KL,lendF,k79,a0,a1,a2,a4,a6,k80,k81,b0,b2,b9,k24,hll,q1,q2,q3,hQ]
 ·rw [if_neg hc]
  simp only [hz0]
  generalize (tidyNs p.nodes.l t.pre).map Nd.av=Q at *
  simp [c31,KL,lendF,k79,a0,a1,a2,a4,a6,k80,k81,b0,b2,b9,k24,hc,hll,q1,q2,q3,hQ]
end Go.Ab.Pl
