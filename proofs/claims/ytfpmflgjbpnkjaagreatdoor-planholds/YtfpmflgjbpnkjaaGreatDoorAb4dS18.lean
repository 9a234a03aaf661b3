/-
  Which gates hold: program and reference.
-/
import Derived.Test.YtfpmflgjbpnkjaaGreatDoorAb4dS8
import Derived.Test.YtfpmflgjbpnkjaaGreatDoorAb4dS4
import Derived.Test.YtfpmflgjbpnkjaaGreatDoorAb4dS13
import Derived.Test.YtfpmflgjbpnkjaaGreatDoorAb4dT3
set_option linter.unusedVariables false
set_option linter.unusedSimpArgs false
set_option linter.unusedSectionVars false
namespace Go.Ab.Pn
open Go.Ab.Pol
set_option maxRecDepth 100000
set_option maxHeartbeats 4000000
def GtOk (gs:List Gt) (n:Nat):Prop:=∀ (j:Nat) (g:Gt),gs[j]?=some g→(g.kids.l=[]→0≤g.leaf∧g.leaf < (n:Int))∧∀ k∈g.kids.l,(j:Int) < k∧k < (gs.length:Int)
theorem shp_in (gs:List Gt):∀ (f i c n' c':Nat),shp gs f i c=some (n',c')→i < n'∧c≤c'∧∀ j,i≤j→j < n'→∃ g,gs[j]?=some g∧(g.kids.l=[]→(c:Int)≤g.leaf∧g.leaf < (c':Int))∧∀ k∈g.kids.l,(j:Int) < k∧k < (n':Int)
 | 0,i,c,n',c',h=>by simp [shp] at h
 | f+1,i,c,n',c',h=>by
  have hL:∀ (ks:List Int) (n c n' c':Nat),shpL (shp gs f) ks n c=some (n',c')→n≤n'∧c≤c'∧(∀ k∈ks,(n:Int)≤k∧k < (n':Int)) ∧
    ∀ j,n≤j→j < n'→∃ g,gs[j]?=some g∧(g.kids.l=[]→(c:Int)≤g.leaf∧g.leaf < (c':Int))∧∀ k∈g.kids.l,(j:Int) < k∧k < (n':Int):=fun ks=>by
   induction ks with
   | nil=>intro n c n' c' h;simp [shpL] at h;exact ⟨by omega,by omega,by simp,fun j h1 h2=>by omega⟩
   | cons k ks ih=>
    intro n c n' c' h
    simp only [shpL] at h
    split at h
    ·rename_i hk
     cases e:shp gs f n c with
     | none=>rw [e] at h;cases h
     | some r=>
      obtain ⟨n1,c1⟩:=r
      rw [e] at h
      obtain ⟨a1,a2,a3⟩:=shp_in gs f n c n1 c1 e
      obtain ⟨b1,b2,b3,b4⟩:=ih n1 c1 n' c' h
      refine ⟨by omega,by omega,fun x hx=>?_,fun j h1 h2=>?_⟩
      ·rcases List.mem_cons.1 hx with rfl | hx
       ·omega
       ·have:=b3 x hx;omega
      ·by_cases hj:j < n1
       ·obtain ⟨g,g1,g2,g3⟩:=a3 j h1 hj
        exact ⟨g,g1,fun q=>by have:=g2 q;omega,fun x hx=>by have:=g3 x hx;omega⟩
       ·obtain ⟨g,g1,g2,g3⟩:=b4 j (by omega) h2
        exact ⟨g,g1,fun q=>by have:=g2 q;omega,g3⟩
    ·cases h
  simp only [shp] at h
  cases hg:gs[i]? with
  | none=>rw [hg] at h;cases h
  | some g=>
   rw [hg] at h
   simp only at h
   split at h
   ·rename_i hk
    split at h
    ·rename_i hc
     simp at h
     obtain ⟨rfl,rfl⟩:=h
     refine ⟨by omega,by omega,fun j h1 h2=>?_⟩
     have:j=i:=by omega
     subst this
     exact ⟨g,hg,fun _=>by omega,fun k hk'=>by rw [hk] at hk';cases hk'⟩
    ·cases h
   rename_i hk
   split at h
   ·cases h
   ·obtain ⟨b1,b2,b3,b4⟩:=hL _ _ _ _ _ h
    refine ⟨by omega,b2,fun j h1 h2=>?_⟩
    by_cases hj:j=i
    ·subst hj
     exact ⟨g,hg,fun q=>absurd q hk,fun k hk'=>by have:=b3 k hk';omega⟩
    ·exact b4 j (by omega) h2
theorem gt_ok {gs:List Gt} {n:Nat} (h:fmE gs n=0):GtOk gs n:=by
 unfold fmE at h
 split at h
 ·exact absurd h (by decide)
 cases e:lvsN gs with
 | none=>simp [e] at h
 | some c=>
  rw [e] at h
  simp only at h
  have hc:c=n:=by
   by_cases q:c=n
   ·exact q
   ·rw [if_neg q] at h;exact absurd h (by decide)
  subst hc
  intro j g hj
  have hlt:=(List.getElem?_eq_some_iff.1 hj).1
  unfold lvsN at e
  split at e
  ·rename_i q;subst q;simp at hj
  ·cases e2:shp gs gs.length 0 0 with
   | none=>rw [e2] at e;cases e
   | some r=>
    obtain ⟨n',c'⟩:=r
    rw [e2] at e
    simp only at e
    split at e
    ·rename_i q
     injection e with e
     subst e
     obtain ⟨_,_,k⟩:=shp_in gs _ _ _ _ _ e2
     obtain ⟨g',g1,g2,g3⟩:=k j (by omega) (by omega)
     rw [hj] at g1
     injection g1 with g1
     subst g1
     exact ⟨fun z=>by have:=g2 z;omega,fun x hx=>by have:=g3 x hx;omega⟩
    ·cases e
abbrev TrF (gs:Sl Gt) (out:List Bool) (h:Heap):Heap:=[.box 34 false (fAV gs),.arr 4 1 false (out.map .bool)] :: h
abbrev lfF (l:Sl Bool) (k:Int):Bool:=l.l.getD k.toNat false
theorem iter_cnt (out:List Bool):∀ (ks:List Int) (c:Nat),iter (fun (c:Nat) (k:Int)=>(.inl (if out.getD k.toNat false then c+1 else c):Nat ⊕ Unit)) c ks=.inl (c+cntB out ks)
 | [],c=>rfl
 | k :: ks,c=>by
  simp only [iter,iter_cnt out ks,cntB,List.filter_cons]
  cases out.getD k.toNat false<;>simp<;>omega
theorem bool_at {out:List Bool} {k:Int} (h0:0≤k) (h1:k < (out.length:Int)):(out.map AV.bool)[k.toNat]?=some (.bool (out.getD k.toNat false))∧∀ hh,(out.map AV.bool)[k.toNat]'hh=.bool (out.getD k.toNat false):=by
 have e:(out.map AV.bool)[k.toNat]?=some (.bool (out.getD k.toNat false)):=by
  rw [List.getElem?_map,List.getD_eq_getElem?_getD,List.getElem?_eq_getElem (by omega)]
  rfl
 exact ⟨e,fun hh=>by
  have:=List.getElem?_eq_getElem hh
  rw [e] at this
  exact (Option.some.inj this).symm⟩
theorem l130_in (gs:Sl Gt) (l:Sl Bool) (out:List Bool) (n:Nat) (x:Gt) (hx:x.kids.l.length≤1000) (ho:out.length=gs.l.length) (hk:∀ k∈x.kids.l,0≤k∧k < (gs.l.length:Int)) (h:Heap) :
  ∃ env,(mu K).code (.loopAt 3 [1,2,5,6,7,8,45,46,47] l130_0) ⟨[(1,l.avS .bool),(2,.ptr (h.length,0) 0),(5,.own (h.length,1) gs.l.length),(6,iV (n:Int)),(7,.ptr (h.length,2) 0),(8,iV 0),(45,x.kids.avS iV),(46,iV (x.kids.l.length:Int)),(47,iV 0)],[.box 34 false (fAV gs),.arr 4 1 false (out.map .bool),.box 140 false x.av] :: h⟩=some (.exit 2,⟨env,[.box 34 false (fAV gs),.arr 4 1 false (out.map .bool),.box 140 false x.av] :: h⟩)∧get env 1=l.avS .bool∧get env 2=.ptr (h.length,0) 0 ∧
   get env 5=.own (h.length,1) gs.l.length∧get env 6=iV (n:Int)∧get env 7=.ptr (h.length,2) 0∧get env 8=iV (cntB out x.kids.l:Int):=by
 have key:=loop_iter (K:=K) (n:=3) (live:=[1,2,5,6,7,8,45,46,47]) (a:=l130_0) (fun (c:Nat) (k:Int)=>(.inl (if out.getD k.toNat false then c+1 else c):Nat ⊕ Unit))
  (fun pre c=>⟨[(1,l.avS .bool),(2,.ptr (h.length,0) 0),(5,.own (h.length,1) gs.l.length),(6,iV (n:Int)),(7,.ptr (h.length,2) 0),(8,iV (c:Int)),(45,x.kids.avS iV),(46,iV (x.kids.l.length:Int)),(47,iV (pre.length:Int))],[.box 34 false (fAV gs),.arr 4 1 false (out.map .bool),.box 140 false x.av] :: h⟩) (fun pre c=>c≤pre.length)
  (fun c o=>∃ env,o=some (.exit 2,⟨env,[.box 34 false (fAV gs),.arr 4 1 false (out.map .bool),.box 140 false x.av] :: h⟩)∧get env 1=l.avS .bool∧get env 2=.ptr (h.length,0) 0 ∧
   get env 5=.own (h.length,1) gs.l.length∧get env 6=iV (n:Int)∧get env 7=.ptr (h.length,2) 0∧get env 8=iV (c:Int)) (fun _ _=>False) x.kids.l
  (fun pre k r c hl hI=>by
   obtain ⟨h1,h2,w1⟩:=idx_facts hl (by omega)
   have hix:=fun (q:IntKind)=>iaF_sl (av:=iV) (sz:=1) (s:=x.kids) (k:=q) (j:=(pre.length:Int)) (x:=k) (by omega) (by simpa using h2) rfl
   obtain ⟨k0,k1⟩:=hk k (by rw [hl];simp)
   obtain ⟨b1,b2⟩:=bool_at (out:=out) k0 (by omega)
   have hlen:pre.length < x.kids.l.length:=by rw [hl];simp
   have v1:IntKind.i64.wrap ((c:Int)+1)=(c:Int)+1:=wrap64 (by omega) (by omega)
   rw [loop_go]
   generalize (mu K).code (.loopAt 3 [1,2,5,6,7,8,45,46,47] l130_0)=F
   clear hl
   refine ⟨fun c' e=>?_,fun r e=>by simp at e⟩
   simp only [Sum.inl.injEq] at e
   subst e
   refine ⟨by simp only [List.length_append,List.length_cons,List.length_nil];split<;>omega,?_⟩
   cases hb:out.getD k.toNat false
   ·rw [hb] at b1 b2
    simp [l130_0,KL,lendF,h1,hix,w1,k0,k1,b1,b2,ho]
   ·rw [hb] at b1 b2
    simp [l130_0,KL,lendF,h1,hix,w1,k0,k1,b1,b2,ho,v1])
  (fun c _=>by
   rw [loop_go]
   generalize (mu K).code (.loopAt 3 [1,2,5,6,7,8,45,46,47] l130_0)=F
   simp [l130_0]) 0 (Nat.zero_le _)
 rw [iter_cnt] at key
 simp only [List.length_nil,Int.natCast_zero,Nat.zero_add] at key
 exact key.2
theorem l130_out (gs:Sl Gt) (hg:okG gs.l) (l:Sl Bool) (ok:GtOk gs.l l.l.length) (h:Heap):∀ (n:Nat) (out:List Bool),n≤gs.l.length→out.length=gs.l.length →
  ∃ env,(mu K).code (.loopAt 2 [1,2,5,6] l130_1) ⟨[(1,l.avS .bool),(2,.ptr (h.length,0) 0),(5,.own (h.length,1) gs.l.length),(6,iV ((n:Int) - 1))],TrF gs out h⟩ =
   some (.exit 0,⟨env,TrF gs (truL (lfF l) gs.l n out) h⟩)∧get env 5=.own (h.length,1) gs.l.length
 | 0,out,hn,ho=>by
  rw [loop_go]
  generalize (mu K).code (.loopAt 2 [1,2,5,6] l130_1)=F
  simp [l130_1,truL]
 | n+1,out,hn,ho=>by
  obtain ⟨x,hx⟩:∃ x,gs.l[n]?=some x:=⟨_,List.getElem?_eq_getElem (by omega)⟩
  obtain ⟨q1,q2⟩:=ok n x hx
  have hkl:=hg.2 x (List.mem_of_getElem? hx)
  have hgl:=hg.1
  have ih:=l130_out gs hg l ok h n (out.set n (gateB out (lfF l) x)) (by omega) (by simpa using ho)
  obtain ⟨env,e1,e2⟩:=ih
  have et:truL (lfF l) gs.l (n+1) out=truL (lfF l) gs.l n (out.set n (gateB out (lfF l) x)):=by simp [truL,hx]
  refine ⟨env,?_,e2⟩
  rw [et,←e1]
  have hia:=fun (q:IntKind)=>iaF_sl (av:=Gt.av) (sz:=3) (s:=gs) (k:=q) (j:=(n:Int)) (x:=x) (by omega) (by simpa using hx) rfl
  have en:(((n+1:Nat):Int) - 1)=(n:Int):=by omega
  rw [en]
  have w1:IntKind.i64.wrap ((n:Int) - 1)=(n:Int) - 1:=wrap64 (by omega) (by omega)
  have n0:(0:Int)≤(n:Int):=by omega
  have n1:(n:Int) < (gs.l.length:Int):=by omega
  have hn1:n < gs.l.length:=by omega
  have ho2:n < out.length:=by omega
  have hm:∀ b:Bool,(out.map AV.bool).set n (.bool b)=(out.set n b).map .bool:=fun b=>by rw [List.map_set]
  have kin:=l130_in gs l out n x hkl ho (fun k hk=>by have:=q2 k hk;omega) h
  rw [loop_go]
  generalize (mu K).code (.loopAt 2 [1,2,5,6] l130_1)=F
  unfold gateB
  by_cases hk:x.kids.l=[]
  ·rw [if_pos hk]
   obtain ⟨l0,l1⟩:=q1 hk
   have hil:=fun (q:IntKind)=>iaF_sl (av:=AV.bool) (sz:=1) (s:=l) (k:=q) (j:=x.leaf) (x:=l.l.getD x.leaf.toNat false) l0 (by rw [List.getD_eq_getElem?_getD,List.getElem?_eq_getElem (by omega)];rfl) rfl
   have hkl0:x.kids.l.length=0:=by simp [hk]
   simp [l130_1,KL,lendF,n0,n1,hn1,ho,ho2,hia,hk,hkl0,hil,w1,TrF]
  ·rw [if_neg hk]
   have hkl0:(x.kids.l.length=0)=False:=by simp [hk]
   have hk':(x.kids.l=[])=False:=by simp [hk]
   obtain ⟨env',k1,g1,g2,g5,g6,g7,g8⟩:=kin
   simp [l130_1,KL,lendF,n0,n1,hn1,ho,ho2,hia,hk',hkl0,w1,TrF,k1,g1,g2,g5,g6,g7,g8]
theorem l132_in (gs:Sl Gt) (l:Sl Bool) (out:List Bool) (n:Nat) (x:Gt) (hx:x.kids.l.length≤1000) (ho:out.length=gs.l.length) (hk:∀ k∈x.kids.l,0≤k∧k < (gs.l.length:Int)) (h:Heap) :
  ∃ env,(mu K).code (.loopAt 3 [1,2,7,8,9,10,11] l132_0) ⟨[(1,l.avS .bool),(2,.ptr (h.length,0) 0),(7,.own (h.length,1) gs.l.length),(8,iV (n:Int)),(9,.ptr (h.length,2) 0),(10,iV 0),(11,iV 0)],[.box 34 false (fAV gs),.arr 4 1 false (out.map .bool),.box 140 false x.av] :: h⟩=some (.exit 2,⟨env,[.box 34 false (fAV gs),.arr 4 1 false (out.map .bool),.box 140 false x.av] :: h⟩)∧get env 1=l.avS .bool∧get env 2=.ptr (h.length,0) 0 ∧
   get env 7=.own (h.length,1) gs.l.length∧get env 8=iV (n:Int)∧get env 9=.ptr (h.length,2) 0∧get env 10=iV (cntB out x.kids.l:Int):=by
 have key:=loop_iter (K:=K) (n:=3) (live:=[1,2,7,8,9,10,11]) (a:=l132_0) (fun (c:Nat) (k:Int)=>(.inl (if out.getD k.toNat false then c+1 else c):Nat ⊕ Unit))
  (fun pre c=>⟨[(1,l.avS .bool),(2,.ptr (h.length,0) 0),(7,.own (h.length,1) gs.l.length),(8,iV (n:Int)),(9,.ptr (h.length,2) 0),(10,iV (c:Int)),(11,iV (pre.length:Int))],[.box 34 false (fAV gs),.arr 4 1 false (out.map .bool),.box 140 false x.av] :: h⟩) (fun pre c=>c≤pre.length)
  (fun c o=>∃ env,o=some (.exit 2,⟨env,[.box 34 false (fAV gs),.arr 4 1 false (out.map .bool),.box 140 false x.av] :: h⟩)∧get env 1=l.avS .bool∧get env 2=.ptr (h.length,0) 0 ∧
   get env 7=.own (h.length,1) gs.l.length∧get env 8=iV (n:Int)∧get env 9=.ptr (h.length,2) 0∧get env 10=iV (c:Int)) (fun _ _=>False) x.kids.l
  (fun pre k r c hl hI=>by
   obtain ⟨h1,h2,w1⟩:=idx_facts hl (by omega)
   have hix:=fun (q:IntKind)=>iaF_sl (av:=iV) (sz:=1) (s:=x.kids) (k:=q) (j:=(pre.length:Int)) (x:=k) (by omega) (by simpa using h2) rfl
   obtain ⟨k0,k1⟩:=hk k (by rw [hl];simp)
   obtain ⟨b1,b2⟩:=bool_at (out:=out) k0 (by omega)
   have hlen:pre.length < x.kids.l.length:=by rw [hl];simp
   have v1:IntKind.i64.wrap ((c:Int)+1)=(c:Int)+1:=wrap64 (by omega) (by omega)
   rw [loop_go]
   generalize (mu K).code (.loopAt 3 [1,2,7,8,9,10,11] l132_0)=F
   clear hl
   refine ⟨fun c' e=>?_,fun r e=>by simp at e⟩
   simp only [Sum.inl.injEq] at e
   subst e
   refine ⟨by simp only [List.length_append,List.length_cons,List.length_nil];split<;>omega,?_⟩
   cases hb:out.getD k.toNat false
   ·rw [hb] at b1 b2
    simp [l132_0,KL,lendF,h1,hix,w1,k0,k1,b1,b2,ho]
   ·rw [hb] at b1 b2
    simp [l132_0,KL,lendF,h1,hix,w1,k0,k1,b1,b2,ho,v1])
  (fun c _=>by
   rw [loop_go]
   generalize (mu K).code (.loopAt 3 [1,2,7,8,9,10,11] l132_0)=F
   simp [l132_0]) 0 (Nat.zero_le _)
 rw [iter_cnt] at key
 simp only [List.length_nil,Int.natCast_zero,Nat.zero_add] at key
 exact key.2
theorem l132_out (gs:Sl Gt) (hg:okG gs.l) (l:Sl Bool) (ok:GtOk gs.l l.l.length) (h:Heap):∀ (n:Nat) (out:List Bool),n≤gs.l.length→out.length=gs.l.length →
  ∃ env,(mu K).code (.loopAt 2 [1,2,7,8] l132_1) ⟨[(1,l.avS .bool),(2,.ptr (h.length,0) 0),(7,.own (h.length,1) gs.l.length),(8,iV ((n:Int) - 1))],TrF gs out h⟩ =
   some (.exit 0,⟨env,TrF gs (truL (lfF l) gs.l n out) h⟩)∧get env 7=.own (h.length,1) gs.l.length
 | 0,out,hn,ho=>by
  rw [loop_go]
  generalize (mu K).code (.loopAt 2 [1,2,7,8] l132_1)=F
  simp [l132_1,truL]
 | n+1,out,hn,ho=>by
  obtain ⟨x,hx⟩:∃ x,gs.l[n]?=some x:=⟨_,List.getElem?_eq_getElem (by omega)⟩
  obtain ⟨q1,q2⟩:=ok n x hx
  have hkl:=hg.2 x (List.mem_of_getElem? hx)
  have hgl:=hg.1
  have ih:=l132_out gs hg l ok h n (out.set n (gateB out (lfF l) x)) (by omega) (by simpa using ho)
  obtain ⟨env,e1,e2⟩:=ih
  have et:truL (lfF l) gs.l (n+1) out=truL (lfF l) gs.l n (out.set n (gateB out (lfF l) x)):=by simp [truL,hx]
  refine ⟨env,?_,e2⟩
  rw [et,←e1]
  have hia:=fun (q:IntKind)=>iaF_sl (av:=Gt.av) (sz:=3) (s:=gs) (k:=q) (j:=(n:Int)) (x:=x) (by omega) (by simpa using hx) rfl
  have en:(((n+1:Nat):Int) - 1)=(n:Int):=by omega
  rw [en]
  have w1:IntKind.i64.wrap ((n:Int) - 1)=(n:Int) - 1:=wrap64 (by omega) (by omega)
  have n0:(0:Int)≤(n:Int):=by omega
  have n1:(n:Int) < (gs.l.length:Int):=by omega
  have hn1:n < gs.l.length:=by omega
  have ho2:n < out.length:=by omega
  have hm:∀ b:Bool,(out.map AV.bool).set n (.bool b)=(out.set n b).map .bool:=fun b=>by rw [List.map_set]
  have kin:=l132_in gs l out n x hkl ho (fun k hk=>by have:=q2 k hk;omega) h
  rw [loop_go]
  generalize (mu K).code (.loopAt 2 [1,2,7,8] l132_1)=F
  unfold gateB
  by_cases hk:x.kids.l=[]
  ·rw [if_pos hk]
   obtain ⟨l0,l1⟩:=q1 hk
   have hil:=fun (q:IntKind)=>iaF_sl (av:=AV.bool) (sz:=1) (s:=l) (k:=q) (j:=x.leaf) (x:=l.l.getD x.leaf.toNat false) l0 (by rw [List.getD_eq_getElem?_getD,List.getElem?_eq_getElem (by omega)];rfl) rfl
   have hkl0:x.kids.l.length=0:=by simp [hk]
   simp [l132_1,KL,lendF,n0,n1,hn1,ho,ho2,hia,hk,hkl0,hil,w1,TrF]
  ·rw [if_neg hk]
   have hkl0:(x.kids.l.length=0)=False:=by simp [hk]
   have hk':(x.kids.l=[])=False:=by simp [hk]
   obtain ⟨env',k1,g1,g2,g5,g6,g7,g8⟩:=kin
   simp [l132_1,KL,lendF,n0,n1,hn1,ho,ho2,hia,hk',hkl0,w1,TrF,k1,g1,g2,g5,g6,g7,g8]
end Go.Ab.Pn
/-
  The truth of a formula: program and reference.
-/
namespace Go.Ab.Pn
open Go.Ab.Pol
set_option maxRecDepth 100000
set_option maxHeartbeats 4000000
def truA (gs:Sl Gt) (l:Sl Bool):List Bool:=truL (lfF l) gs.l gs.l.length (List.replicate gs.l.length false)
theorem truL_len {lf:Int→Bool} {gs:List Gt}:∀ (n:Nat) (out:List Bool),(truL lf gs n out).length=out.length
 | 0,out=>rfl
 | n+1,out=>by
  simp only [truL]
  split
  ·rw [truL_len n];simp
  ·rw [truL_len n];simp
theorem truA_len (gs:Sl Gt) (l:Sl Bool):(truA gs l).length=gs.l.length:=by
 unfold truA
 rw [truL_len];simp
theorem l130_nil (n:Nat) (a b c:AV) (H:Heap):∃ env,(mu K).code (.loopAt n [1,2,5,6] l130_1) ⟨[(1,a),(2,b),(5,c),(6,iV (-1))],H⟩=some (.exit 0,⟨env,H⟩)∧get env 5=c:=by
 rw [loop_go]
 generalize (mu K).code (.loopAt n [1,2,5,6] l130_1)=F
 simp [l130_1]
theorem f130 (gs:Sl Gt) (hg:okG gs.l) (l:Sl Bool) (ok:GtOk gs.l l.l.length) (h:Heap):(mu K).fn 130 [fAV gs,l.avS .bool] h=some (.val (if gs.l=[] then .nils else .lst ((truA gs l).map .bool)) h):=by
 obtain ⟨env,e1,e2⟩:=l130_out gs hg l ok h gs.l.length (List.replicate gs.l.length false) (by omega) (by simp)
 have hgl:=hg.1
 have w1:IntKind.i64.wrap ((gs.l.length:Int) - 1)=(gs.l.length:Int) - 1:=wrap64 (by omega) (by omega)
 rw [fn_go (KX _ _ _) fn130 rfl (by simp [c130])]
 have ea:truL (lfF l) gs.l gs.l.length (List.replicate gs.l.length false)=truA gs l:=rfl
 have el:=truA_len gs l
 rw [ea] at e1
 simp only [TrF,List.map_replicate] at e1
 by_cases c:gs.l=[]
 ·have c':gs.l.length=0:=by simp [c]
  obtain ⟨env',d1,d2⟩:=l130_nil 1 (l.avS .bool) (.ptr (h.length,0) 0) .nils ([.box 34 false (fAV gs)] :: h)
  have w0:IntKind.i64.wrap (-1)=-1:=wrap64 (by omega) (by omega)
  simp [c130,KL,lendF,c,c',w0,d1,d2]
 ·have c':0 < gs.l.length:=by
   cases hh:gs.l with
   | nil=>exact absurd hh c
   | cons _ _=>simp
  have r1:gs.l.length * 1≤room:=by unfold room;omega
  have r2:gs.l.length≤room:=by unfold room;omega
  simp [c130,KL,lendF,c,c',w1,e1,e2,TrF,r1,r2,el,AV.refOk,AV.refOks]
theorem f132 (gs:Sl Gt) (hg:okG gs.l) (l:Sl Bool) (h:Heap):(mu K).fn 132 [fAV gs,l.avS .bool] h =
  some (.val (.tup [if fmE gs.l l.l.length=0 then .lst ((truA gs l).map .bool) else .nils,iV (fmE gs.l l.l.length)]) h):=by
 have hgl:=hg.1
 have k27:=f27 gs hg l.l.length
 have w1:IntKind.i64.wrap ((gs.l.length:Int) - 1)=(gs.l.length:Int) - 1:=wrap64 (by omega) (by omega)
 rw [fn_go (KX _ _ _) fn132 rfl (by simp [c132])]
 by_cases c:fmE gs.l l.l.length=0
 ·have ok:=gt_ok c
  obtain ⟨env,e1,e2⟩:=l132_out gs hg l ok h gs.l.length (List.replicate gs.l.length false) (by omega) (by simp)
  have ea:truL (lfF l) gs.l gs.l.length (List.replicate gs.l.length false)=truA gs l:=rfl
  have el:=truA_len gs l
  rw [ea] at e1
  simp only [TrF,List.map_replicate] at e1
  have r1:gs.l.length * 1≤room:=by unfold room;omega
  have r2:gs.l.length≤room:=by unfold room;omega
  simp [c132,KL,lendF,k27,c,w1,e1,e2,TrF,r1,r2,el,AV.refOk,AV.refOks]
 ·simp [c132,KL,lendF,k27,c]
theorem f74 (gs:Sl Gt) (hg:okG gs.l) (l:Sl Bool) (h:Heap):(mu K).fn 74 [fAV gs,l.avS .bool] h =
  some (.val (.tup [if fmE gs.l l.l.length=0∧gs.l≠[] then .lst ((truA gs l).map .bool) else .nils,iV (fmE gs.l l.l.length)]) h):=by
 have k67:=f67 gs hg l.l.length
 rw [fn_go (KX _ _ _) fn74 rfl (by simp [c74])]
 by_cases c:fmE gs.l l.l.length=0
 ·have k:=f130 gs hg l (gt_ok c)
  by_cases d:gs.l=[]
  ·simp only [if_pos d] at k
   have d':(gs.l=[])=True:=eq_true d
   simp [c74,KL,lendF,k67,c,d',k]
  ·simp only [if_neg d] at k
   have d':(gs.l=[])=False:=eq_false d
   simp [c74,KL,lendF,k67,c,d',k]
 ·simp [c74,KL,lendF,k67,c]
def rootB (gs:Sl Gt) (l:Sl Bool):Bool:=decide (gs.l=[]) || (truA gs l).getD 0 false
theorem f77 (gs:Sl Gt) (hg:okG gs.l) (l:Sl Bool) (h:Heap):(mu K).fn 77 [fAV gs,l.avS .bool] h=some (.val (.bool (if fmE gs.l l.l.length=0 then rootB gs l else false)) h):=by
 have k:=f132 gs hg l
 have el:=truA_len gs l
 rw [fn_go (KX _ _ _) fn77 rfl (by simp [c77])]
 by_cases c:fmE gs.l l.l.length=0
 ·rw [if_pos c] at k
  unfold rootB
  cases ht:truA gs l with
  | nil=>
   have d:gs.l=[]:=by rw [ht] at el;simpa using el.symm
   rw [ht] at k
   have d':(gs.l=[])=True:=eq_true d
   simp [c77,KL,lendF,k,c,d']
  | cons b bs=>
   have d:gs.l≠[]:=by intro e;rw [ht,e] at el;simp at el
   rw [ht] at k
   have d':(gs.l=[])=False:=eq_false d
   have nb:((bs.length:Int)+1=0)=False:=eq_false (by omega)
   simp [c77,KL,lendF,k,c,d',nb]
 ·rw [if_neg c] at k
  simp [c77,KL,lendF,k,c]
end Go.Ab.Pn
/-
  Values out of range, squares that do not hold: the searches.
-/
namespace Go.Ab.Pn
open Go.Ab.Pol
set_option maxRecDepth 100000
set_option maxHeartbeats 4000000
def outV (v:Int):Bool:=decide (v < 0) || decide (4294967295 < v)
def anF {α:Type} (q:α→Bool) (_:Unit) (v:α):Unit ⊕ Unit:=if q v=true then .inr () else .inl ()
theorem iter_anF {α:Type} (q:α→Bool):∀ l:List α,iter (anF q) () l=if l.any q=true then .inr () else .inl ()
 | []=>rfl
 | v :: l=>by
  simp only [iter,anF,List.any_cons,Bool.or_eq_true]
  by_cases h:q v=true
  ·simp [h]
  ·simp [h,iter_anF q l]
theorem f73 (v:Int) (h:Heap):(mu K).fn 73 [.int .i64 v] h=some (.val (.bool (outV v)) h):=by
 rw [fn_go (KX _ _ _) fn73 rfl (by simp [c73])]
 unfold outV
 by_cases c:v < 0
 ·simp [c73,KL,lendF,c]
 ·simp [c73,KL,lendF,c]
theorem f76 (x:Pt) (vs:Sl Int) (h:Heap) (a:Loc) (ha:hget h a=some (.box 57 false (vs.avS iV))):(mu K).fn 76 [x.av,.ptr a 0] h=some (.val (.bool (!ptH x vs.l)) h):=by
 obtain ⟨ne,ne2⟩:=lt_of ha
 have k20:=f20 x vs
 rw [fn_go (KX _ _ _) fn76 rfl (by simp [c76])]
 simp [c76,KL,lendF,hget,ha,ne,ne2,k20]
theorem l129_ok (vs:Sl Int) (hn:vs.l.length≤1000) (h:Heap) :
  match iter (anF outV) () vs.l with
  | .inl _=>∃ env,(mu K).code (.loopAt 0 [0,1,7,8] l129_0) ⟨[(0,vs.avS iV),(1,.fn (.func 73) [] []),(7,iV (vs.l.length:Int)),(8,iV 0)],[] :: h⟩=some (.exit 0,⟨env,[] :: h⟩)
  | .inr _=>∃ env,∃ n:Nat,(mu K).code (.loopAt 0 [0,1,7,8] l129_0) ⟨[(0,vs.avS iV),(1,.fn (.func 73) [] []),(7,iV (vs.l.length:Int)),(8,iV 0)],[] :: h⟩=some (.ret,⟨env,[] :: h⟩)∧get env 4=iV (n:Int):=by
 have key:=loop_iter (K:=K) (n:=0) (live:=[0,1,7,8]) (a:=l129_0) (anF outV)
  (fun pre b=>⟨[(0,vs.avS iV),(1,.fn (.func 73) [] []),(7,iV (vs.l.length:Int)),(8,iV (pre.length:Int))],[] :: h⟩) (fun _ _=>True)
  (fun b o=>∃ env,o=some (.exit 0,⟨env,[] :: h⟩)) (fun k o=>∃ env,∃ n:Nat,o=some (.ret,⟨env,[] :: h⟩)∧get env 4=iV (n:Int)) vs.l
  (fun pre x r b hl _=>by
   obtain ⟨h1,h2,w1⟩:=idx_facts hl (by omega)
   have hix:=fun (k:IntKind)=>iaF_sl (av:=iV) (sz:=1) (s:=vs) (k:=k) (j:=(pre.length:Int)) (x:=x) (by omega) (by simpa using h2) rfl
   have k73:=f73 x
   rw [loop_go]
   generalize (mu K).code (.loopAt 0 [0,1,7,8] l129_0)=F
   clear hl
   cases c:outV x with
   | true=>
    rw [c] at k73
    have hq:anF outV () x=.inr ():=by simp [anF,c]
    rw [hq]
    simp [l129_0,KL,lendF,h1,hix,w1,k73]
    exact ⟨pre.length,rfl⟩
   | false=>
    rw [c] at k73
    have hq:anF outV () x=.inl ():=by simp [anF,c]
    rw [hq]
    simp [l129_0,KL,lendF,h1,hix,w1,k73])
  (fun b _=>by
   rw [loop_go]
   generalize (mu K).code (.loopAt 0 [0,1,7,8] l129_0)=F
   simp [l129_0]) () trivial
 simp only [List.length_nil,Int.natCast_zero] at key
 generalize iter (anF outV) () vs.l=r at key ⊢
 cases r with
 | inl b=>exact key.2
 | inr b=>exact key
theorem f72 (vs:Sl Int) (hn:vs.l.length≤1000) (h:Heap):(mu K).fn 72 [vs.avS iV,.fn (.func 73) [] []] h=some (.val (.bool (vs.l.any outV)) h):=by
 have k129:∀ h:Heap,∃ j:Int,(mu K).fn 129 [vs.avS iV,.fn (.func 73) [] []] h=some (.val (iV j) h)∧(0≤j↔vs.l.any outV=true):=fun h=>by
  have key:=l129_ok vs hn h
  rw [iter_anF] at key
  rw [fn_go (KX _ _ _) fn129 rfl (by simp [c129])]
  by_cases c:vs.l.any outV=true
  ·rw [if_pos c] at key
   obtain ⟨env,n,k,g⟩:=key
   exact ⟨n,by simp [c129,KL,lendF,k,g],by rw [c];simp⟩
  ·rw [if_neg c] at key
   obtain ⟨env,k⟩:=key
   exact ⟨-1,by simp [c129,KL,lendF,k],by constructor;(intro h;omega);(intro h;exact absurd h c)⟩
 obtain ⟨J,k129⟩:=Classical.axiomOfChoice k129
 have k1:=fun h=>(k129 h).1
 rw [fn_go (KX _ _ _) fn72 rfl (by simp [c72])]
 have e:=(k129 ([] :: h)).2
 have e2:decide (0≤J ([] :: h))=vs.l.any outV:=by
  cases c:vs.l.any outV
  ·rw [c] at e;simpa using e
  ·rw [c] at e;simpa using e
 simp [c72,KL,lendF,k1,e2]
theorem l131_ok (l:Sl Pt) (hn:l.l.length≤1000) (vs:Sl Int) (h:Heap) (a:Loc) (ha:hget h a=some (.box 57 false (vs.avS iV))) :
  match iter (anF fun x=>!ptH x vs.l) () l.l with
  | .inl _=>∃ env,(mu K).code (.loopAt 0 [0,1,7,8] l131_0) ⟨[(0,l.avS Pt.av),(1,.fn (.func 76) [] [.ptr a 0]),(7,iV (l.l.length:Int)),(8,iV 0)],[] :: h⟩=some (.exit 0,⟨env,[] :: h⟩)
  | .inr _=>∃ env,∃ n:Nat,(mu K).code (.loopAt 0 [0,1,7,8] l131_0) ⟨[(0,l.avS Pt.av),(1,.fn (.func 76) [] [.ptr a 0]),(7,iV (l.l.length:Int)),(8,iV 0)],[] :: h⟩=some (.ret,⟨env,[] :: h⟩)∧get env 4=iV (n:Int):=by
 obtain ⟨ne,ne2⟩:=lt_of ha
 have key:=loop_iter (K:=K) (n:=0) (live:=[0,1,7,8]) (a:=l131_0) (anF fun x=>!ptH x vs.l)
  (fun pre b=>⟨[(0,l.avS Pt.av),(1,.fn (.func 76) [] [.ptr a 0]),(7,iV (l.l.length:Int)),(8,iV (pre.length:Int))],[] :: h⟩) (fun _ _=>True)
  (fun b o=>∃ env,o=some (.exit 0,⟨env,[] :: h⟩)) (fun k o=>∃ env,∃ n:Nat,o=some (.ret,⟨env,[] :: h⟩)∧get env 4=iV (n:Int)) l.l
  (fun pre x r b hl _=>by
   obtain ⟨h1,h2,w1⟩:=idx_facts hl (by omega)
   have hix:=fun (k:IntKind)=>iaF_sl (av:=Pt.av) (sz:=5) (s:=l) (k:=k) (j:=(pre.length:Int)) (x:=x) (by omega) (by simpa using h2) rfl
   have k76:=f76 x vs ([] :: h) a (by simp [hget,ne2,ha])
   rw [loop_go]
   generalize (mu K).code (.loopAt 0 [0,1,7,8] l131_0)=F
   clear hl
   cases c:ptH x vs.l with
   | false=>
    rw [c] at k76
    have hq:anF (fun x=>!ptH x vs.l) () x=.inr ():=by simp [anF,c]
    rw [hq]
    simp [l131_0,KL,lendF,h1,hix,w1,k76]
    exact ⟨pre.length,rfl⟩
   | true=>
    rw [c] at k76
    have hq:anF (fun x=>!ptH x vs.l) () x=.inl ():=by simp [anF,c]
    rw [hq]
    simp [l131_0,KL,lendF,h1,hix,w1,k76])
  (fun b _=>by
   rw [loop_go]
   generalize (mu K).code (.loopAt 0 [0,1,7,8] l131_0)=F
   simp [l131_0]) () trivial
 simp only [List.length_nil,Int.natCast_zero] at key
 generalize iter (anF fun x=>!ptH x vs.l) () l.l=r at key ⊢
 cases r with
 | inl b=>exact key.2
 | inr b=>exact key
theorem f75 (l:Sl Pt) (hn:l.l.length≤1000) (vs:Sl Int) (h:Heap) (a:Loc) (ha:hget h a=some (.box 57 false (vs.avS iV))) :
  (mu K).fn 75 [l.avS Pt.av,.fn (.func 76) [] [.ptr a 0]] h=some (.val (.bool (l.l.any fun x=>!ptH x vs.l)) h):=by
 have k131:∀ h:Heap,hget h a=some (.box 57 false (vs.avS iV))→∃ j:Int,(mu K).fn 131 [l.avS Pt.av,.fn (.func 76) [] [.ptr a 0]] h=some (.val (iV j) h)∧(0≤j↔(l.l.any fun x=>!ptH x vs.l)=true):=fun h ha=>by
  have key:=l131_ok l hn vs h a ha
  rw [iter_anF] at key
  rw [fn_go (KX _ _ _) fn131 rfl (by simp [c131])]
  by_cases c:(l.l.any fun x=>!ptH x vs.l)=true
  ·rw [if_pos c] at key
   obtain ⟨env,n,k,g⟩:=key
   exact ⟨n,by simp [c131,KL,lendF,k,g],by rw [c];simp⟩
  ·rw [if_neg c] at key
   obtain ⟨env,k⟩:=key
   exact ⟨-1,by simp [c131,KL,lendF,k],by constructor;(intro h;omega);(intro h;exact absurd h c)⟩
 obtain ⟨ne,ne2⟩:=lt_of ha
 obtain ⟨j,k1,e⟩:=k131 ([] :: h) (by simp [hget,ne2,ha])
 rw [fn_go (KX _ _ _) fn75 rfl (by simp [c75])]
 have e2:decide (0≤j)=l.l.any fun x=>!ptH x vs.l:=by
  generalize (l.l.any fun x=>!ptH x vs.l)=B at e ⊢
  cases B<;>simpa using e
 simp [c75,KL,lendF,k1,e2]
end Go.Ab.Pn
/-
  Whether a plan holds: program and reference.
-/
namespace Go.Ab.Pn
open Go.Ab.Pol
set_option maxRecDepth 100000
set_option maxHeartbeats 4000000
def leA:List Bool→Blk
 | []=>.arr 0 0 false []
 | b :: l=>.arr 4 1 false ((b :: l).map .bool)
theorem leA_at (l:List Bool):∃ t z,leA l=.arr t z false (l.map .bool)∧(z=0∨t=4∧z=1):=by
 cases l with
 | nil=>exact ⟨0,0,rfl,.inl rfl⟩
 | cons i s=>exact ⟨4,1,rfl,.inr ⟨rfl,rfl⟩⟩
theorem leA_snoc (l:List Bool) (i:Bool):leA (l++[i])=.arr 4 1 false (l.map .bool++[.bool i]):=by
 cases l with
 | nil=>rfl
 | cons j s=>simp [leA]
abbrev HdF (p:Pl) (vs:Sl Int) (l:List Bool) (h:Heap):Heap:=[.box 36 false p.av,.box 57 false (vs.avS iV),leA l] :: h
theorem iter_u {α:Type}:∀ l:List α,iter (fun (_:Unit) (_:α)=>(.inl ():Unit ⊕ Unit)) () l=.inl ()
 | []=>rfl
 | x :: l=>by simp only [iter,iter_u l]
theorem l28_ok (p:Pl) (z:SzP p) (vs:Sl Int) (h:Heap) :
  ∃ env,(mu K4).code (.loopAt 3 [2,3,7,26,27,28] l28_0) ⟨[(2,.ptr (h.length,0) 0),(3,.ptr (h.length,1) 0),(7,.own (h.length,2) 0),(26,p.atoms.avS Pt.av),(27,iV (p.atoms.l.length:Int)),(28,iV 0)],[.box 36 false p.av,.box 57 false (vs.avS iV),.arr 0 0 false []] :: h⟩ =
   some (.exit 0,⟨env,HdF p vs (p.atoms.l.map fun x=>ptH x vs.l) h⟩)∧get env 2=.ptr (h.length,0) 0∧get env 3=.ptr (h.length,1) 0∧get env 7=.own (h.length,2) p.atoms.l.length:=by
 have key:=loop_iter (K:=K4) (n:=3) (live:=[2,3,7,26,27,28]) (a:=l28_0) (fun (_:Unit) (_:Pt)=>(.inl ():Unit ⊕ Unit))
  (fun pre b=>⟨[(2,.ptr (h.length,0) 0),(3,.ptr (h.length,1) 0),(7,.own (h.length,2) pre.length),(26,p.atoms.avS Pt.av),(27,iV (p.atoms.l.length:Int)),(28,iV (pre.length:Int))],HdF p vs (pre.map fun x=>ptH x vs.l) h⟩) (fun _ _=>True)
  (fun b o=>∃ env,o=some (.exit 0,⟨env,HdF p vs (p.atoms.l.map fun x=>ptH x vs.l) h⟩)∧get env 2=.ptr (h.length,0) 0∧get env 3=.ptr (h.length,1) 0∧get env 7=.own (h.length,2) p.atoms.l.length) (fun _ _=>False) p.atoms.l
  (fun pre x r b hl _=>by
   obtain ⟨h1,h2,w1⟩:=idx_facts hl (by have:=z.atoms;omega)
   have hlen:pre.length < p.atoms.l.length:=by rw [hl];simp
   have za:=z.atoms
   have hix:=fun (k:IntKind)=>iaF_sl (av:=Pt.av) (sz:=5) (s:=p.atoms) (k:=k) (j:=(pre.length:Int)) (x:=x) (by omega) (by simpa using h2) rfl
   have k20:=fun h=>up4 (f20 x vs h)
   obtain ⟨ot,oz,ho,hz⟩:=leA_at (pre.map fun x=>ptH x vs.l)
   have ho2:=leA_snoc (pre.map fun x=>ptH x vs.l) (ptH x vs.l)
   have r1:(pre.length+1) * 1≤room:=by unfold room;omega
   have r2:pre.length+1≤room:=by unfold room;omega
   rw [loop_go]
   generalize (mu K4).code (.loopAt 3 [2,3,7,26,27,28] l28_0)=F
   clear hl
   refine ⟨fun b' _=>⟨trivial,?_⟩,fun r' e=>by simp at e⟩
   simp [l28_0,KL4,lendF,h1,hix,w1,k20,ho,ho2,hz,r1,r2,HdF])
  (fun b _=>by
   obtain ⟨ot,oz,ho,hz⟩:=leA_at (p.atoms.l.map fun x=>ptH x vs.l)
   rw [loop_go]
   generalize (mu K4).code (.loopAt 3 [2,3,7,26,27,28] l28_0)=F
   simp [l28_0,ho]) () trivial
 rw [iter_u] at key
 exact key.2
theorem l29_a (p:Pl) (vs:Sl Int) (hn:vs.l.length≤1000) (h:Heap) :
  match iter (anF outV) () vs.l with
  | .inl _=>∃ env,(mu K).code (.loopAt 1 [1,2,7] l29_0) ⟨[(1,vs.avS iV),(2,.ptr (h.length,0) 0),(7,iV 0)],[.box 36 false p.av] :: h⟩=some (.exit 0,⟨env,[.box 36 false p.av] :: h⟩)∧get env 1=vs.avS iV∧get env 2=.ptr (h.length,0) 0
  | .inr _=>∃ env,(mu K).code (.loopAt 1 [1,2,7] l29_0) ⟨[(1,vs.avS iV),(2,.ptr (h.length,0) 0),(7,iV 0)],[.box 36 false p.av] :: h⟩=some (.ret,⟨env,[.box 36 false p.av] :: h⟩)∧get env 4=.bool false∧get env 5=iV 2:=by
 have key:=loop_iter (K:=K) (n:=1) (live:=[1,2,7]) (a:=l29_0) (anF outV)
  (fun pre b=>⟨[(1,vs.avS iV),(2,.ptr (h.length,0) 0),(7,iV (pre.length:Int))],[.box 36 false p.av] :: h⟩) (fun _ _=>True)
  (fun b o=>∃ env,o=some (.exit 0,⟨env,[.box 36 false p.av] :: h⟩)∧get env 1=vs.avS iV∧get env 2=.ptr (h.length,0) 0) (fun k o=>∃ env,o=some (.ret,⟨env,[.box 36 false p.av] :: h⟩)∧get env 4=.bool false∧get env 5=iV 2) vs.l
  (fun pre x r b hl _=>by
   obtain ⟨h1,h2,w1⟩:=idx_facts hl (by omega)
   have hix:=fun (k:IntKind)=>iaF_sl (av:=iV) (sz:=1) (s:=vs) (k:=k) (j:=(pre.length:Int)) (x:=x) (by omega) (by simpa using h2) rfl
   rw [loop_go]
   generalize (mu K).code (.loopAt 1 [1,2,7] l29_0)=F
   clear hl
   by_cases c1:x < 0
   ·have hq:anF outV () x=.inr ():=by simp [anF,outV,c1]
    rw [hq]
    simp [l29_0,KL,lendF,h1,hix,w1,c1]
   by_cases c2:4294967295 < x
   ·have hq:anF outV () x=.inr ():=by simp [anF,outV,c2]
    rw [hq]
    simp [l29_0,KL,lendF,h1,hix,w1,c1,c2]
   ·have hq:anF outV () x=.inl ():=by simp [anF,outV,c1,c2]
    rw [hq]
    simp [l29_0,KL,lendF,h1,hix,w1,c1,c2])
  (fun b _=>by
   rw [loop_go]
   generalize (mu K).code (.loopAt 1 [1,2,7] l29_0)=F
   simp [l29_0]) () trivial
 simp only [List.length_nil,Int.natCast_zero] at key
 generalize iter (anF outV) () vs.l=r at key ⊢
 cases r with
 | inl b=>exact key.2
 | inr b=>exact key
abbrev HrF (p:Pl) (l:List Bool) (h:Heap):Heap:=[.box 36 false p.av,leA l] :: h
theorem l29_b (p:Pl) (z:SzP p) (vs:Sl Int) (h:Heap) :
  ∃ env,(mu K).code (.loopAt 2 [1,2,8,9] l29_1) ⟨[(1,vs.avS iV),(2,.ptr (h.length,0) 0),(8,.own (h.length,1) 0),(9,iV 0)],[.box 36 false p.av,.arr 0 0 false []] :: h⟩ =
   some (.exit 2,⟨env,HrF p (p.atoms.l.map fun x=>ptH x vs.l) h⟩)∧get env 1=vs.avS iV∧get env 2=.ptr (h.length,0) 0∧get env 8=.own (h.length,1) p.atoms.l.length:=by
 have key:=loop_iter (K:=K) (n:=2) (live:=[1,2,8,9]) (a:=l29_1) (fun (_:Unit) (_:Pt)=>(.inl ():Unit ⊕ Unit))
  (fun pre b=>⟨[(1,vs.avS iV),(2,.ptr (h.length,0) 0),(8,.own (h.length,1) pre.length),(9,iV (pre.length:Int))],HrF p (pre.map fun x=>ptH x vs.l) h⟩) (fun _ _=>True)
  (fun b o=>∃ env,o=some (.exit 2,⟨env,HrF p (p.atoms.l.map fun x=>ptH x vs.l) h⟩)∧get env 1=vs.avS iV∧get env 2=.ptr (h.length,0) 0∧get env 8=.own (h.length,1) p.atoms.l.length) (fun _ _=>False) p.atoms.l
  (fun pre x r b hl _=>by
   obtain ⟨h1,h2,w1⟩:=idx_facts hl (by have:=z.atoms;omega)
   have hlen:pre.length < p.atoms.l.length:=by rw [hl];simp
   have za:=z.atoms
   have hix:=fun (k:IntKind)=>iaF_sl (av:=Pt.av) (sz:=5) (s:=p.atoms) (k:=k) (j:=(pre.length:Int)) (x:=x) (by omega) (by simpa using h2) rfl
   have k21:=fun h=>f21 x vs h
   obtain ⟨ot,oz,ho,hz⟩:=leA_at (pre.map fun x=>ptH x vs.l)
   have ho2:=leA_snoc (pre.map fun x=>ptH x vs.l) (ptH x vs.l)
   have r1:(pre.length+1) * 1≤room:=by unfold room;omega
   have r2:pre.length+1≤room:=by unfold room;omega
   rw [loop_go]
   generalize (mu K).code (.loopAt 2 [1,2,8,9] l29_1)=F
   clear hl
   refine ⟨fun b' _=>⟨trivial,?_⟩,fun r' e=>by simp at e⟩
   simp [l29_1,KL,lendF,h1,hix,w1,k21,ho,ho2,hz,r1,r2,HrF])
  (fun b _=>by
   obtain ⟨ot,oz,ho,hz⟩:=leA_at (p.atoms.l.map fun x=>ptH x vs.l)
   rw [loop_go]
   generalize (mu K).code (.loopAt 2 [1,2,8,9] l29_1)=F
   simp [l29_1,ho]) () trivial
 rw [iter_u] at key
 exact key.2
theorem l29_c (p:Pl) (z:SzP p) (vs:Sl Int) (c:AV) (B:Blk) (h:Heap) :
  match iter (anF fun x=>!ptH x vs.l) () p.sq.l with
  | .inl _=>∃ env,(mu K).code (.loopAt 2 [1,2,8,10] l29_2) ⟨[(1,vs.avS iV),(2,.ptr (h.length,0) 0),(8,c),(10,iV 0)],[.box 36 false p.av,B] :: h⟩=some (.exit 4,⟨env,[.box 36 false p.av,B] :: h⟩)∧get env 2=.ptr (h.length,0) 0∧get env 8=c
  | .inr _=>∃ env,(mu K).code (.loopAt 2 [1,2,8,10] l29_2) ⟨[(1,vs.avS iV),(2,.ptr (h.length,0) 0),(8,c),(10,iV 0)],[.box 36 false p.av,B] :: h⟩=some (.ret,⟨env,[.box 36 false p.av,B] :: h⟩)∧get env 4=.bool false∧get env 5=iV 0:=by
 have key:=loop_iter (K:=K) (n:=2) (live:=[1,2,8,10]) (a:=l29_2) (anF fun x=>!ptH x vs.l)
  (fun pre b=>⟨[(1,vs.avS iV),(2,.ptr (h.length,0) 0),(8,c),(10,iV (pre.length:Int))],[.box 36 false p.av,B] :: h⟩) (fun _ _=>True)
  (fun b o=>∃ env,o=some (.exit 4,⟨env,[.box 36 false p.av,B] :: h⟩)∧get env 2=.ptr (h.length,0) 0∧get env 8=c) (fun k o=>∃ env,o=some (.ret,⟨env,[.box 36 false p.av,B] :: h⟩)∧get env 4=.bool false∧get env 5=iV 0) p.sq.l
  (fun pre x r b hl _=>by
   obtain ⟨h1,h2,w1⟩:=idx_facts hl (by have:=z.sq;omega)
   have hix:=fun (k:IntKind)=>iaF_sl (av:=Pt.av) (sz:=5) (s:=p.sq) (k:=k) (j:=(pre.length:Int)) (x:=x) (by omega) (by simpa using h2) rfl
   have k21:=fun h=>f21 x vs h
   rw [loop_go]
   generalize (mu K).code (.loopAt 2 [1,2,8,10] l29_2)=F
   clear hl
   cases hp:ptH x vs.l with
   | false=>
    rw [hp] at k21
    have hq:anF (fun x=>!ptH x vs.l) () x=.inr ():=by simp [anF,hp]
    rw [hq]
    simp [l29_2,KL,lendF,h1,hix,w1,k21]
   | true=>
    rw [hp] at k21
    have hq:anF (fun x=>!ptH x vs.l) () x=.inl ():=by simp [anF,hp]
    rw [hq]
    simp [l29_2,KL,lendF,h1,hix,w1,k21])
  (fun b _=>by
   rw [loop_go]
   generalize (mu K).code (.loopAt 2 [1,2,8,10] l29_2)=F
   simp [l29_2]) () trivial
 simp only [List.length_nil,Int.natCast_zero] at key
 generalize iter (anF fun x=>!ptH x vs.l) () p.sq.l=r at key ⊢
 cases r with
 | inl b=>exact key.2
 | inr b=>exact key
end Go.Ab.Pn
/-
  The statements of chapter 47 on the evaluator: whether a plan holds.
-/
namespace Go.Ab.Pn
open Go.Ab.Pol
set_option maxRecDepth 100000
set_option maxHeartbeats 4000000
def holdP (p:Pl) (vs:List Int):Bool×Int:=
 if chkP p≠0 then (false,chkP p) else if vs.length≠p.comm.l.length then (false,6) else if vs.any outV=true then (false,2)
 else if (p.sq.l.any fun x=>!ptH x vs)=true then (false,0) else (rootB p.gates ⟨false,p.atoms.l.map fun x=>ptH x vs⟩,0)
theorem chk_fm {p:Pl} (h:chkP p=0):fmE p.gates.l p.atoms.l.length=0:=by
 by_cases e:fmE p.gates.l p.atoms.l.length=0
 ·exact e
 ·exfalso
  unfold chkP at h
  repeat' (split at h)
  all_goals first | (exact absurd h (by decide)) | (exact absurd h e) | (rename_i q1 q2;exact absurd e (by simpa using q1)) | (rename_i q1;exact absurd e (by simpa using q1)) | skip
theorem avS_f (L:List Bool):(⟨false,L⟩:Sl Bool).avS .bool=.lst (L.map .bool):=by cases L<;>rfl
theorem f28 (p:Pl) (z:SzP p) (vs:Sl Int) (hn:vs.l.length≤1000) (h:Heap):(mu K4).fn 28 [p.av,vs.avS iV] h=some (.val (.tup [.bool (holdP p vs.l).1,iV (holdP p vs.l).2]) h):=by
 have k25:=fun h=>f25 p z h
 have k72:=fun h=>up4 (f72 vs hn h)
 have k75:=fun h a ha=>up4 (f75 p.sq (by have:=z.sq;omega) vs h a ha)
 have pd:p.av=.agg [p.disc.avS Pc.av,p.comm.avS Pc.av,p.atoms.avS Pt.av,p.gates.avS Gt.av,p.sq.avS Pt.av]:=rfl
 rw [fn_go (KX4 _ _ _) (fnk4 fn28) rfl (by simp [c28])]
 unfold holdP
 by_cases c1:chkP p=0
 case neg=>
  rw [if_pos c1]
  simp [c28,KL4,lendF,k25,c1]
 rw [if_neg (by simp [c1])]
 rw [c1] at k25
 by_cases c2:vs.l.length=p.comm.l.length
 case neg=>
  have c2':((vs.l.length:Int)=(p.comm.l.length:Int))=False:=eq_false (by omega)
  rw [if_pos c2]
  simp [c28,KL4,lendF,k25,c2']
 have c2':((vs.l.length:Int)=(p.comm.l.length:Int))=True:=eq_true (by omega)
 rw [if_neg (by simp [c2])]
 cases c3:vs.l.any outV with
 | true=>
  rw [c3] at k72
  simp [c28,KL4,lendF,k25,c2',k72]
 | false=>
 rw [c3] at k72
 rw [if_neg (by simp)]
 obtain ⟨env,e1,g2,g3,g7⟩:=l28_ok p z vs h
 have hf:=chk_fm c1
 have hlen:(p.atoms.l.map fun x=>ptH x vs.l).length=p.atoms.l.length:=by simp
 generalize hL:(p.atoms.l.map fun x=>ptH x vs.l)=L at *
 have k74:=fun h=>up4 (f74 p.gates z.gates ⟨false,L⟩ h)
 simp only [hlen,hf,true_and,avS_f,if_true] at k74
 obtain ⟨ot,oz,ho,hz⟩:=leA_at L
 have el:=truA_len p.gates ⟨false,L⟩
 generalize (p.sq.l.any fun x=>!ptH x vs.l)=S at *
 unfold rootB
 generalize truA p.gates ⟨false,L⟩=T at *
 simp only [HdF,ho] at e1
 by_cases d:p.gates.l=[]
 ·have d':(p.gates.l=[])=True:=eq_true d
  simp only [d',ne_eq,not_true_eq_false,if_false] at k74
  cases S with
  | true=>simp [c28,KL4,lendF,k25,c2',k72,e1,g2,g3,g7,hlen,k74,k75,hget]
  | false=>simp [c28,KL4,lendF,k25,c2',k72,e1,g2,g3,g7,hlen,k74,k75,hget,d']
 ·have d':(p.gates.l=[])=False:=eq_false d
  simp only [d',ne_eq,not_false_eq_true,if_true] at k74
  cases T with
  | nil=>exact absurd (List.eq_nil_of_length_eq_zero el.symm) d
  | cons b bs=>
   have nb:((bs.length:Int)+1=0)=False:=eq_false (by omega)
   cases S with
   | true=>simp [c28,KL4,lendF,k25,c2',k72,e1,g2,g3,g7,hlen,k74,k75,hget,nb]
   | false=>simp [c28,KL4,lendF,k25,c2',k72,e1,g2,g3,g7,hlen,k74,k75,hget,d',nb]
theorem f29 (p:Pl) (z:SzP p) (vs:Sl Int) (hn:vs.l.length≤1000) (h:Heap):(mu K).fn 29 [p.av,vs.avS iV] h=some (.val (.tup [.bool (holdP p vs.l).1,iV (holdP p vs.l).2]) h):=by
 have k26:=fun h=>f26 p z h
 have pd:p.av=.agg [p.disc.avS Pc.av,p.comm.avS Pc.av,p.atoms.avS Pt.av,p.gates.avS Gt.av,p.sq.avS Pt.av]:=rfl
 have ka:=l29_a p vs hn h
 rw [iter_anF] at ka
 rw [fn_go (KX _ _ _) fn29 rfl (by simp [c29])]
 unfold holdP
 by_cases c1:chkP p=0
 case neg=>
  rw [if_pos c1]
  simp [c29,KL,lendF,k26,c1]
 rw [if_neg (by simp [c1])]
 rw [c1] at k26
 by_cases c2:vs.l.length=p.comm.l.length
 case neg=>
  have c2':((vs.l.length:Int)=(p.comm.l.length:Int))=False:=eq_false (by omega)
  rw [if_pos c2]
  simp [c29,KL,lendF,k26,c2']
 have c2':((vs.l.length:Int)=(p.comm.l.length:Int))=True:=eq_true (by omega)
 rw [if_neg (by simp [c2])]
 cases c3:vs.l.any outV with
 | true=>
  rw [c3,if_pos rfl] at ka
  obtain ⟨env,k,g4,g5⟩:=ka
  simp [c29,KL,lendF,k26,c2',k,g4,g5]
 | false=>
 rw [c3,if_neg (by decide)] at ka
 obtain ⟨enva,ka,ga1,ga2⟩:=ka
 rw [if_neg (by simp)]
 obtain ⟨env,e1,g1,g2,g8⟩:=l29_b p z vs h
 have hf:=chk_fm c1
 have hlen:(p.atoms.l.map fun x=>ptH x vs.l).length=p.atoms.l.length:=by simp
 have kc:=fun c B=>l29_c p z vs c B h
 rw [iter_anF] at kc
 generalize hL:(p.atoms.l.map fun x=>ptH x vs.l)=L at *
 have k77:=fun h=>f77 p.gates z.gates ⟨false,L⟩ h
 simp only [hlen,hf,avS_f,if_true] at k77
 obtain ⟨ot,oz,ho,hz⟩:=leA_at L
 generalize (p.sq.l.any fun x=>!ptH x vs.l)=S at *
 simp only [HrF,ho] at e1
 cases S with
 | true=>
  obtain ⟨envc,k,g4,g5⟩:=kc (.own (h.length,1) p.atoms.l.length) (.arr ot oz false (L.map .bool))
  simp [c29,KL,lendF,k26,c2',ka,ga1,ga2,e1,g1,g2,g8,k,g4,g5]
 | false=>
  obtain ⟨envc,k,gc2,gc8⟩:=kc (.own (h.length,1) p.atoms.l.length) (.arr ot oz false (L.map .bool))
  simp [c29,KL,lendF,k26,c2',ka,ga1,ga2,e1,g1,g2,g8,k,gc2,gc8,hlen,k77]
theorem law8 (p:Pl) (o:bPl p) (vs:Sl Int):(mu K4).fn 8 [p.av,vs.avS iV] []=some (.val (.bool true) []):=by
 have k22:=fun h=>up4 (f22 p h)
 have aw:=awake47
 rw [fn_go (KX4 _ _ _) (fnk4 fn8) rfl (by simp [c8])]
 cases hs:smallP p
 ·rw [hs] at k22
  simp [c8,KL4,lendF,k22,aw]
 rw [hs] at k22
 have z:=(small_sz o hs).sz
 by_cases c:80 < vs.l.length
 ·have c':(80:Int) < (vs.l.length:Int):=by omega
  simp [c8,KL4,lendF,k22,aw,c,c']
 have c':¬ (80:Int) < (vs.l.length:Int):=by omega
 have k28:=fun h=>f28 p z vs (by omega) h
 have k29:=fun h=>up4 (f29 p z vs (by omega) h)
 cases hb:(holdP p vs.l).1<;>rw [hb] at k28 k29<;>simp [c8,KL4,lendF,k22,aw,c,c',k28,k29]
end Go.Ab.Pn
