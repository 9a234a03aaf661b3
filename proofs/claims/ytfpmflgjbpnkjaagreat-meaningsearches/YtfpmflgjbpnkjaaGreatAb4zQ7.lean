/-
  The reference of chapter 45: the truth of the nodes, by induction over the tree.
-/
import Derived.Test.YtfpmflgjbpnkjaaGreatAb4zQ4
import Derived.Test.YtfpmflgjbpnkjaaGreatAbTidy
set_option linter.unusedVariables false
set_option linter.unusedSimpArgs false
set_option linter.unusedSectionVars false
namespace Go.Ab.Pz
open Go.Ab.Pol
set_option maxRecDepth 100000
set_option maxHeartbeats 4000000
theorem hset_self:∀ (h:Heap) (a:Loc) (X:Blk),hget h a=some X→hset h a X=h
 | [],a,X,e=>rfl
 | f :: o,a,X,e=>by
  by_cases c:a.1=o.length
  ·rw [hset,if_pos c]
   rw [hget,if_pos c] at e
   congr 1
   apply List.ext_getElem?
   intro j
   rw [List.getElem?_set]
   by_cases d:a.2=j
   ·subst d
    have:=(List.getElem?_eq_some_iff.1 e).1
    simp [this,e]
    have:=List.getElem?_eq_getElem this
    rw [this] at e
    injection e with e
    exact e.symm
   ·simp [d]
  ·rw [hset,if_neg c]
   rw [hget,if_neg c] at e
   rw [hset_self o a X e]
def inStep (v0:Vl) (b:Bool) (v:Vl):Bool ⊕ Unit:=.inl (b || cmpV 0 v0 v)
theorem iter_in (v0:Vl):∀ (l:List Vl) (b:Bool),iter (inStep v0) b l=.inl (b || l.any (cmpV 0 v0))
 | [],b=>by simp [iter]
 | v :: l,b=>by simp [iter,inStep,iter_in v0 l,Bool.or_assoc]
section
variable {p:Po} {l:Sl Sc} {xs:Sl (Sl Int)}
theorem l40_1_ok (n:Nd) (v0:Vl) (vs:List Vl) (hs:∀ v∈vs,Same2 0 v0 v) (hl:vs.length≤1000) (i:Nat) (a:Loc) (N:Nat) (h:Heap) (ha:a.1 < h.length) (hd:dom h a) (B:List Bool) (hB:B.length=N) (hi:i < N) :
  ∃ env,(mu K).code (.loopAt 3 [3,4,12,15] l40_1) ⟨[(3,iV (i:Int)),(4,.own a N),(12,.own (h.length,2) (vs.length+1)),(15,iV 1)],[.box 26 false p.av,.box 63 false n.av,kvB (v0 :: vs)] :: hset h a (.arr 4 1 false (bB B))⟩ =
   some (.exit 3,⟨env,[.box 26 false p.av,.box 63 false n.av,kvB (v0 :: vs)] :: hset h a (.arr 4 1 false (bB (if vs.any (cmpV 0 v0)=true then B.set i true else B)))⟩)∧get env 3=iV (i:Int)∧get env 4=.own a N:=by
 have hlen:∀ B,(hset h a B).length=h.length:=fun B=>hset_length h a B
 have ne:(a.1=h.length)=False:=by simp;omega
 have hgh:=fun X=>get_hset hd X
 have key:=loop_iter (K:=K) (n:=3) (live:=[3,4,12,15]) (a:=l40_1) (ρ:=Unit) (inStep v0)
  (fun pre b=>⟨[(3,iV (i:Int)),(4,.own a N),(12,.own (h.length,2) (vs.length+1)),(15,iV ((pre.length:Int)+1))],[.box 26 false p.av,.box 63 false n.av,kvB (v0 :: vs)] :: hset h a (.arr 4 1 false (bB (if b=true then B.set i true else B)))⟩) (fun _ _=>True)
  (fun b o=>∃ env,o=some (.exit 3,⟨env,[.box 26 false p.av,.box 63 false n.av,kvB (v0 :: vs)] :: hset h a (.arr 4 1 false (bB (if b=true then B.set i true else B)))⟩)∧get env 3=iV (i:Int)∧get env 4=.own a N)
  (fun _ _=>False) vs
  (fun pre v r b hl' _=>by
   obtain ⟨h1,h2,w1⟩:=idx_facts hl' (by omega)
   have hp:pre.length < vs.length:=(List.getElem?_eq_some_iff.1 h2).1
   have w2:IntKind.i64.wrap ((pre.length:Int)+1+1)=(pre.length:Int)+1+1:=wrap64 (by omega) (by omega)
   have h1':((pre.length:Int)+1 < (vs.length:Int)+1)=True:=by simp;omega
   have h0':(0≤(pre.length:Int)+1)=True:=by simp only [eq_iff_iff,iff_true];omega
   have h00:(0 < (vs.length:Int)+1)=True:=by simp only [eq_iff_iff,iff_true];omega
   have et:((pre.length:Int)+1).toNat=pre.length+1:=by omega
   have hA:kvB (v0 :: vs)=.arr 128 2 false (rvAV v0 :: vs.map rvAV):=rfl
   have hAi:(rvAV v0 :: vs.map rvAV)[pre.length+1]?=some (rvAV v):=by simp [h2]
   have hAl:(rvAV v0 :: vs.map rvAV).length=vs.length+1:=by simp
   have hA0:(rvAV v0 :: vs.map rvAV)[0]?=some (rvAV v0):=rfl
   have hcur:∀ b:Bool,(bB (if b=true then B.set i true else B)).length=N:=fun b=>by cases b<;>simp [hB]
   have hset1:∀ b:Bool,(bB (if b=true then B.set i true else B)).set i (.bool true)=bB (B.set i true):=fun b=>by
    cases b<;>simp [bB,List.map_set]
   have hii:(i:Int) < (N:Int):=by omega
   have hgi:∀ b:Bool,∃ c,(bB (if b=true then B.set i true else B))[i]?=some (.bool c):=fun b=>by
    have:i < (if b=true then B.set i true else B).length:=by cases b<;>simp [hB]<;>omega
    exact ⟨_,by rw [List.getElem?_map,List.getElem?_eq_getElem this];rfl⟩
   obtain ⟨c,hc⟩:=hgi b
   obtain ⟨a0,s0,e0⟩:=rv_form v0
   obtain ⟨a1,s1,e1⟩:=rv_form v
   have heq:(decide (a1=a0) && decide (s1=s0))=cmpV 0 v0 v:=by
    rcases hs v (List.mem_of_getElem? h2) with ⟨x,y,rfl,rfl⟩ | ⟨_,x,y,rfl,rfl⟩
    ·simp only [rvAV,AV.agg.injEq,List.cons.injEq,AV.int.injEq,AV.str.injEq,true_and,and_true] at e0 e1
     obtain ⟨rfl,rfl⟩:=e0
     obtain ⟨rfl,rfl⟩:=e1
     simp [cmpV,cmpI,eq_comm]
    ·simp only [rvAV,AV.agg.injEq,List.cons.injEq,AV.int.injEq,AV.str.injEq,true_and,and_true] at e0 e1
     obtain ⟨rfl,rfl⟩:=e0
     obtain ⟨rfl,rfl⟩:=e1
     simp [cmpV,eq_comm]
   refine ⟨fun b' e=>⟨trivial,?_⟩,fun _ e=>(by cases e)⟩
   simp only [inStep] at e
   injection e with e
   subst e
   rw [loop_go]
   have e2:((pre++[v]).length:Int)=(pre.length:Int)+1:=by simp
   rw [e2]
   generalize (mu K).code (.loopAt 3 [3,4,12,15] l40_1)=F
   clear hl'
   rw [hA]
   rw [e0] at hAi hAl hA0 ⊢
   rw [e1] at hAi
   have hcl:=hcur b
   have hs1:=hset1 b
   rw [←heq]
   generalize hLA:AV.agg [iV a0,.str s0] :: vs.map rvAV=LA at *
   generalize hCB:bB (if b=true then B.set i true else B)=CB at *
   have hA0g:∀ hh:0 < LA.length,LA[0]'hh=.agg [iV a0,.str s0]:=fun hh=>by
    rw [List.getElem?_eq_getElem hh] at hA0
    injection hA0
   have hAig:∀ hh:pre.length+1 < LA.length,LA[pre.length+1]'hh=.agg [iV a1,.str s1]:=fun hh=>by
    rw [List.getElem?_eq_getElem hh] at hAi
    injection hAi
   by_cases q1:a1=a0
   ·by_cases q2:s1=s0
    ·have d1:(a1=a0)=True:=by simp [q1]
     have d2:(s1=s0)=True:=by simp [q2]
     have hz:bB (if (b || true)=true then B.set i true else B)=bB (B.set i true):=by simp
     simp only [d1,d2,decide_true,Bool.and_self]
     rw [hz]
     simp [l40_1,h1',h0',h00,et,hAi,hAl,hA0,hA0g,hAig,w2,eqFs,eqF,d1,d2,hlen,ne,hgh,hcl,hc,hs1,hii,hset_hset]
    ·have d1:(a1=a0)=True:=by simp [q1]
     have d2:(s1=s0)=False:=by simp [q2]
     simp only [d1,d2,decide_true,decide_false,Bool.and_false,Bool.or_false]
     rw [hCB]
     simp [l40_1,h1',h0',h00,et,hAi,hAl,hA0,hA0g,hAig,w2,eqFs,eqF,d1,d2,hlen]
   ·have d1:(a1=a0)=False:=by simp [q1]
    simp only [d1,decide_false,Bool.false_and,Bool.or_false]
    rw [hCB]
    by_cases q2:s1=s0
    ·have d2:(s1=s0)=True:=by simp [q2]
     simp [l40_1,h1',h0',h00,et,hAi,hAl,hA0,hA0g,hAig,w2,eqFs,eqF,d1,d2,hlen]
    ·have d2:(s1=s0)=False:=by simp [q2]
     simp [l40_1,h1',h0',h00,et,hAi,hAl,hA0,hA0g,hAig,w2,eqFs,eqF,d1,d2,hlen])
  (fun b _=>by
   rw [loop_go]
   generalize (mu K).code (.loopAt 3 [3,4,12,15] l40_1)=F
   simp [l40_1,hlen]) false trivial
 rw [iter_in] at key
 simp only [List.length_nil,Int.natCast_zero,Int.zero_add,Bool.false_or,Bool.false_eq_true,if_false] at key
 exact key.2
end
end Go.Ab.Pz
/-
  The reference of chapter 45: truth, Truths, Holds.
-/
namespace Go.Ab.Pz
open Go.Ab.Pol
set_option maxRecDepth 100000
set_option maxHeartbeats 8000000
theorem set_false {B:List Bool} {i:Nat} (h:B[i]?=some false):B.set i false=B:=by
 apply List.ext_getElem?
 intro j
 rw [List.getElem?_set]
 by_cases e:i=j
 ·subst e
  have:=(List.getElem?_eq_some_iff.1 h).1
  simp only [if_true,this,h]
 ·simp [e]
section
variable {p:Po} {l:Sl Sc} {xs:Sl (Sl Int)}
mutual
theorem f40 (hlen:p.nodes.l.length≤1000) (hkl:∀ n∈p.nodes.l, n.kids.l.length≤1000) (vl:Nd→Vl) (a:Loc) (N:Nat) (hN:N=p.nodes.l.length):∀ (t:Tr), IsT p.nodes.l t→WF t true→(∀ s∈t.subs, AtomR p l xs vl s)→t.pre.Nodup →
    ∀ (h:Heap) (B:List Bool), hget h a=some (.arr 4 1 false (bB B))→a.1 < h.length→B.length=N→(∀ j∈t.pre, B[j]?=some false) →
      (mu K).fn 40 [p.av, l.avS Sc.av, xsAV xs, iV (t.i:Int), .own a N] h=some (.val (.bool (truth vl t)) (hset h a (.arr 4 1 false (bB (mark vl t B)))))
  | .nd i n ks, hT, hW, hA, hnd, h, B, hg, ha, hB, hf=>by
    have hself:=hA _ (subs_self _)
    obtain ⟨hn, hk, hks⟩:=hT
    obtain ⟨hfm, hw⟩:=hW
    obtain ⟨k0, k12, k8, hkid, _, hlo, hhi⟩:=form_parts hfm
    have k8:n.k≤8:=by simpa using k8
    have hi:i < N:=by rw [hN];exact (List.getElem?_eq_some_iff.1 hn).1
    have lk:n.kids.l.length=ks.length:=by rw [hk];simp
    have hkn:=hkl n (List.mem_of_getElem? hn)
    have hix:=fun (k:IntKind)=>iaF_sl (av:=Nd.av) (sz:=6) (s:=p.nodes) (k:=k) (j:=(i:Int)) (x:=n) (by omega) (by simpa using hn) rfl
    have bp1:=beq_avS _ beq_us p.uses
    have bp2:=beq_avS _ beq_rf p.reveal
    have bp3:=beq_avS _ beq_nd p.nodes
    have bk:=beq_avS _ beq_iV n.kids
    have hd:dom h a:=dom_of hg
    have hlenh:∀ B, (hset h a B).length=h.length:=fun B=>hset_length h a B
    have ne:(a.1=h.length)=False:=by simp;omega
    have hgh:=fun X=>get_hset hd X
    have hii:(i:Int) < (N:Int):=by omega
    have hsub:∀ x∈ks, ∀ s∈x.subs, s∈(Tr.nd i n ks).subs:=fun x hx s hs=>by
      simp only [Tr.subs, List.mem_cons]
      exact .inr (subss_mem hx hs)
    simp only [Tr.pre, List.nodup_cons] at hnd
    have hfi:B[i]?=some false:=hf i (by simp [Tr.pre])
    have hfk:∀ j∈Tr.pres ks, B[j]?=some false:=fun j hj=>hf j (by simp [Tr.pre, hj])
    have hself2:=hset_self h a _ hg
    obtain ⟨k, hkk⟩:∃ k:Nat, n.k=(k:Int):=⟨n.k.toNat, by omega⟩
    have conds : n.k ≤ 5 → ∃ env, (mu K).code (.loopAt 3 [1, 2, 3, 4, 5, 11, 12, 13, 14] l40_0) ⟨[(1, l.avS Sc.av), (2, xsAV xs), (3, iV (i : Int)), (4, .own a N), (5, .ptr (h.length, 0) 0), (11, .ptr (h.length, 1) 0), (12, .own (h.length, 2) 0), (13, iV 0), (14, iV 0)],
          [.box 26 false p.av, .box 63 false n.av, .arr 0 0 false []] :: h⟩ =
        some (.exit 0, ⟨env, [.box 26 false p.av, .box 63 false n.av, .arr 0 0 false []] :: hset h a (.arr 4 1 false (bB (marks vl ks B)))⟩)∧get env 3=iV (i:Int)∧get env 4=.own a N∧get env 11=.ptr (h.length, 1) 0∧get env 12=.own (h.length, 2) 0∧get env 13=iV (truths vl ks:Int):=fun c=>by
      have:=l40_0_c (p:=p) (l:=l) (xs:=xs) (vl:=vl) n ks hk hkn c i a N h ha hd hnd.2 (f40s hlen hkl vl a N hN ks hks (by simpa [c] using hw) (fun x hx s hs=>hA s (hsub x hx s hs)) hnd.2) B hB hfk
      rw [hself2] at this
      exact this
    have vals : 6 ≤ n.k → ∃ env, (mu K).code (.loopAt 3 [1, 2, 3, 4, 5, 11, 12, 13, 14] l40_0) ⟨[(1, l.avS Sc.av), (2, xsAV xs), (3, iV (i : Int)), (4, .own a N), (5, .ptr (h.length, 0) 0), (11, .ptr (h.length, 1) 0), (12, .own (h.length, 2) 0), (13, iV 0), (14, iV 0)],
          [.box 26 false p.av, .box 63 false n.av, .arr 0 0 false []] :: h⟩ =
        some (.exit 0, ⟨env, [.box 26 false p.av, .box 63 false n.av, kvB (ks.map fun k=>vl k.n)] :: h⟩)∧get env 3=iV (i:Int)∧get env 4=.own a N∧get env 11=.ptr (h.length, 1) 0∧get env 12=.own (h.length, 2) ks.length∧get env 13=iV 0:=fun c=>
      l40_0_v (p:=p) (l:=l) (xs:=xs) (vl:=vl) n ks hk hkn c (hself.ev c) i a N h
    have hml:=marks_len vl ks B
    have hmi:(marks vl ks B)[i]?=some false:=by rw [marks_other vl ks B i hnd.1];exact hfi
    have hbl:∀ C:List Bool, C.length=N→(bB C).length=N:=fun C e=>by simp [e]
    have hbi:∀ C:List Bool, C[i]?=some false→(bB C)[i]?=some (.bool false):=fun C e=>by rw [List.getElem?_map, e];rfl
    have hbs:∀ (C:List Bool) (b:Bool), (bB C).set i (.bool b)=bB (C.set i b):=fun C b=>by simp [bB, List.map_set]
    have hsi:∀ (C:List Bool) (b:Bool), C.length=N→(bB (C.set i b))[i]?=some (.bool b):=fun C b e=>by
      rw [List.getElem?_map, List.getElem?_set_self (by omega)];rfl
    have hsl:∀ (C:List Bool) (b:Bool), C.length=N→(bB (C.set i b)).length=N:=fun C b e=>by simp [e]
    rw [fn_go (KX _ _ _) fn40 rfl (by simp [c40])]
    simp only [Tr.i, mark]
    obtain rfl | rfl | rfl | rfl | rfl | rfl | rfl | rfl | rfl:k=0∨k=1∨k=2∨k=3∨k=4∨k=5∨k=6∨k=7∨k=8:=by omega
    · have hk0:ks=[]:=by rw [lk] at hkid;exact List.length_eq_zero_iff.1 (by simpa [kidsOk, hkk] using hkid)
      subst hk0
      obtain ⟨env, kl, g3, g4, g11, g12, g13⟩:=conds (by omega)
      have ht:truth vl (.nd i n [])=true:=by simp [truth, hkk]
      simp only [marks] at kl hml hmi
      rw [if_neg (by omega), ht, ← hbs]
      have e1:=hbl B hB
      have e2:=hbi B hfi
      have e3:=hsi B true hB
      have e4:=hsl B true hB
      rw [←hbs] at e3 e4
      generalize bB B=BB at *
      simp [c40, KL, lendF, hix, bp1, bp2, bp3, bk, kl, g3, g4, g11, g12, g13, hkk, hlenh, ne, hgh, hset_hset, hii, e1, e2, e3, e4]
    · have hk0:ks=[]:=by rw [lk] at hkid;exact List.length_eq_zero_iff.1 (by simpa [kidsOk, hkk] using hkid)
      subst hk0
      obtain ⟨env, kl, g3, g4, g11, g12, g13⟩:=conds (by omega)
      have ht:truth vl (.nd i n [])=false:=by simp [truth, hkk]
      simp only [marks] at kl hml hmi
      rw [if_neg (by omega), ht, set_false hfi]
      have e1:=hbl B hB
      have e2:=hbi B hfi
      generalize bB B=BB at *
      simp [c40, KL, lendF, hix, bp1, bp2, bp3, bk, kl, g3, g4, g11, g12, g13, hkk, hlenh, ne, hgh, hset_hset, hii, e1, e2]
    · obtain ⟨env, kl, g3, g4, g11, g12, g13⟩:=conds (by omega)
      have ht:truth vl (.nd i n ks)=decide (truths vl ks=0):=by simp [truth, hkk]
      rw [if_pos (by omega), ht, ← hbs]
      generalize marks vl ks B=M at *
      have hM:M.length=N:=by omega
      have e1:=hbl M hM
      have e2:=hbi M hmi
      have e3:=fun b=>hsi M b hM
      have e4:=fun b=>hsl M b hM
      simp only [←hbs] at e3 e4
      generalize bB M=BB at *
      generalize truths vl ks=z at *
      by_cases hz:z=0
      · subst hz
        simp [c40, KL, lendF, hix, bp1, bp2, bp3, bk, kl, g3, g4, g11, g12, g13, hkk, hlenh, ne, hgh, hset_hset, hii, e1, e2, e3, e4]
      · simp [c40, KL, lendF, hix, bp1, bp2, bp3, bk, kl, g3, g4, g11, g12, g13, hkk, hlenh, ne, hgh, hset_hset, hii, e1, e2, e3, e4, hz]
    · obtain ⟨env, kl, g3, g4, g11, g12, g13⟩:=conds (by omega)
      have ht:truth vl (.nd i n ks)=decide (truths vl ks=ks.length):=by simp [truth, hkk]
      rw [if_pos (by omega), ht, ← hbs]
      generalize marks vl ks B=M at *
      have hM:M.length=N:=by omega
      have e1:=hbl M hM
      have e2:=hbi M hmi
      have e3:=fun b=>hsi M b hM
      have e4:=fun b=>hsl M b hM
      simp only [←hbs] at e3 e4
      generalize bB M=BB at *
      generalize truths vl ks=z at *
      by_cases hz:z=ks.length
      · have d2:((z:Int)=(ks.length:Int))=True:=by simp;omega
        have d3:(z=ks.length)=True:=by simp [hz]
        simp [c40, KL, lendF, hix, bp1, bp2, bp3, bk, kl, g3, g4, g11, g12, g13, hkk, hlenh, ne, hgh, hset_hset, hii, e1, e2, e3, e4, lk, d2, d3]
      · have d2:((z:Int)=(ks.length:Int))=False:=by simp;omega
        simp [c40, KL, lendF, hix, bp1, bp2, bp3, bk, kl, g3, g4, g11, g12, g13, hkk, hlenh, ne, hgh, hset_hset, hii, e1, e2, e3, e4, lk, d2, hz]
    · obtain ⟨env, kl, g3, g4, g11, g12, g13⟩:=conds (by omega)
      have ht:truth vl (.nd i n ks)=decide (0 < truths vl ks):=by simp [truth, hkk]
      rw [if_pos (by omega), ht, ← hbs]
      generalize marks vl ks B=M at *
      have hM:M.length=N:=by omega
      have e1:=hbl M hM
      have e2:=hbi M hmi
      have e3:=fun b=>hsi M b hM
      have e4:=fun b=>hsl M b hM
      simp only [←hbs] at e3 e4
      generalize bB M=BB at *
      generalize truths vl ks=z at *
      by_cases hz:0 < z
      · have d2:(0 < (z:Int))=True:=by simp;omega
        simp [c40, KL, lendF, hix, bp1, bp2, bp3, bk, kl, g3, g4, g11, g12, g13, hkk, hlenh, ne, hgh, hset_hset, hii, e1, e2, e3, e4, d2, hz]
      · have hz:z=0:=by omega
        subst hz
        simp [c40, KL, lendF, hix, bp1, bp2, bp3, bk, kl, g3, g4, g11, g12, g13, hkk, hlenh, ne, hgh, hset_hset, hii, e1, e2, e3, e4]
    · obtain ⟨env, kl, g3, g4, g11, g12, g13⟩:=conds (by omega)
      have ht:truth vl (.nd i n ks)=decide (n.num≤(truths vl ks:Int)):=by simp [truth, hkk]
      rw [if_pos (by omega), ht, ← hbs]
      generalize marks vl ks B=M at *
      have hM:M.length=N:=by omega
      have e1:=hbl M hM
      have e2:=hbi M hmi
      have e3:=fun b=>hsi M b hM
      have e4:=fun b=>hsl M b hM
      simp only [←hbs] at e3 e4
      generalize bB M=BB at *
      generalize truths vl ks=z at *
      by_cases hz:n.num≤(z:Int)
      · simp [c40, KL, lendF, hix, bp1, bp2, bp3, bk, kl, g3, g4, g11, g12, g13, hkk, hlenh, ne, hgh, hset_hset, hii, e1, e2, e3, e4, hz]
      · simp [c40, KL, lendF, hix, bp1, bp2, bp3, bk, kl, g3, g4, g11, g12, g13, hkk, hlenh, ne, hgh, hset_hset, hii, e1, e2, e3, e4, hz]
    · obtain ⟨env, kl, g3, g4, g11, g12, g13⟩:=vals (by omega)
      have hl2:ks.length=2:=by rw [lk] at hkid;simpa [kidsOk, hkk] using hkid
      obtain ⟨x, y, rfl⟩:=two_of hl2
      obtain ⟨hh, hs2⟩:=hself.cmp hkk x y rfl
      have ht:truth vl (.nd i n [x, y])=cmpV n.num (vl x.n) (vl y.n):=by simp [truth, hkk, kidN]
      have k62:=fun h=>f62 (vl x.n) (vl y.n) n.num hh hs2 h
      rw [if_neg (by omega), ht, ← hbs]
      obtain ⟨a0, s0, q0⟩:=rv_form (vl x.n)
      obtain ⟨a1, s1, q1⟩:=rv_form (vl y.n)
      simp only [List.map_cons, List.map_nil, kvB, q0, q1] at kl k62
      simp only [List.length_cons, List.length_nil, Nat.zero_add, Nat.reduceAdd] at g12
      have e1:=hbl B hB
      have e2:=hbi B hfi
      have e3:=fun b=>hsi B b hB
      have e4:=fun b=>hsl B b hB
      simp only [←hbs] at e3 e4
      generalize bB B=BB at *
      generalize cmpV n.num (vl x.n) (vl y.n)=C at *
      simp [c40, KL, lendF, hix, bp1, bp2, bp3, bk, kl, g3, g4, g11, g12, g13, hkk, hlenh, ne, hgh, hg, hset_hset, hii, e1, e2, e3, e4, k62]
    · obtain ⟨env, kl, g3, g4, g11, g12, g13⟩:=vals (by omega)
      have hl2:ks.length=3:=by rw [lk] at hkid;simpa [kidsOk, hkk] using hkid
      obtain ⟨x, y, z, rfl⟩:=three_of hl2
      obtain ⟨hs1, hs2⟩:=hself.btw hkk x y z rfl
      have ht:truth vl (.nd i n [x, y, z])=(cmpV 5 (vl x.n) (vl y.n) && cmpV 3 (vl x.n) (vl z.n)):=by simp [truth, hkk, kidN]
      rw [if_neg (by omega), ht, ← hbs]
      obtain ⟨a0, a1, q0, q1⟩:∃ a b, vl x.n=.num a∧vl y.n=.num b:=by
        rcases hs1 with ⟨a, b, e, f⟩ | ⟨h5, _⟩
        · exact ⟨a, b, e, f⟩
        · omega
      obtain ⟨a0', a2, q0', q2⟩:∃ a b, vl x.n=.num a∧vl z.n=.num b:=by
        rcases hs2 with ⟨a, b, e, f⟩ | ⟨h5, _⟩
        · exact ⟨a, b, e, f⟩
        · omega
      simp only [List.map_cons, List.map_nil, kvB, q0, q1, q2, rvAV] at kl
      simp only [List.length_cons, List.length_nil, Nat.zero_add, Nat.reduceAdd] at g12
      have hc:(cmpV 5 (vl x.n) (vl y.n) && cmpV 3 (vl x.n) (vl z.n))=(decide (a1≤a0) && decide (a0≤a2)):=by
        rw [q0, q1, q2];simp [cmpV, cmpI]
      rw [hc]
      have e1:=hbl B hB
      have e2:=hbi B hfi
      have e3:=fun b=>hsi B b hB
      have e4:=fun b=>hsl B b hB
      simp only [←hbs] at e3 e4
      generalize bB B=BB at *
      by_cases c1:a1≤a0
      · simp [c40, KL, lendF, hix, bp1, bp2, bp3, bk, kl, g3, g4, g11, g12, g13, hkk, hlenh, ne, hgh, hg, hset_hset, hii, e1, e2, e3, e4, c1]
      · simp [c40, KL, lendF, hix, bp1, bp2, bp3, bk, kl, g3, g4, g11, g12, g13, hkk, hlenh, ne, hgh, hg, hset_hset, hii, e1, e2, e3, e4, c1]
    · obtain ⟨env, kl, g3, g4, g11, g12, g13⟩:=vals (by omega)
      have hl2:2≤ks.length:=by rw [lk] at hkid;simpa [kidsOk, hkk] using hkid
      obtain ⟨x, r, rfl⟩:∃ x r, ks=x :: r:=by cases ks with
        | nil=>simp at hl2
        | cons x r=>exact ⟨x, r, rfl⟩
      have hin:=hself.inn hkk x r rfl
      have ht:truth vl (.nd i n (x :: r))=(r.map fun b=>vl b.n).any (cmpV 0 (vl x.n)):=by
        rw [List.any_map]
        simp only [truth, hkk]
        simp only [List.drop_succ_cons, List.drop_zero, kidN, List.getElem?_cons_zero]
        simp
        rfl
      rw [if_neg (by omega), ht]
      obtain ⟨env2, k2, b3, b4⟩:=l40_1_ok (p:=p) n (vl x.n) (r.map fun b=>vl b.n) (fun v hv=>by
        obtain ⟨b, hb, rfl⟩:=List.mem_map.1 hv
        exact hin b hb) (by simp only [List.length_cons] at lk;simp;omega) i a N h ha hd B hB hi
      rw [hself2] at k2
      simp only [List.map_cons] at kl
      simp only [List.length_map] at k2
      simp only [List.length_cons] at g12
      have hres:B.set i ((r.map fun b=>vl b.n).any (cmpV 0 (vl x.n)))=if (r.map fun b=>vl b.n).any (cmpV 0 (vl x.n))=true then B.set i true else B:=by
        cases (r.map fun b=>vl b.n).any (cmpV 0 (vl x.n))
        · simp [set_false hfi]
        · simp
      have hM:(if (r.map fun b=>vl b.n).any (cmpV 0 (vl x.n))=true then B.set i true else B).length=N:=by split<;>simp [hB]
      have hget1:(bB (if (r.map fun b=>vl b.n).any (cmpV 0 (vl x.n))=true then B.set i true else B))[i]?=some (.bool ((r.map fun b=>vl b.n).any (cmpV 0 (vl x.n)))):=by
        cases (r.map fun b=>vl b.n).any (cmpV 0 (vl x.n))
        · exact hbi B hfi
        · exact hsi B true hB
      rw [hres]
      have e1:=hbl _ hM
      generalize (r.map fun b=>vl b.n).any (cmpV 0 (vl x.n))=TT at *
      generalize bB (if TT=true then B.set i true else B)=BB at *
      generalize kvB (vl x.n :: r.map fun b=>vl b.n)=KB at *
      simp [c40, KL, lendF, hix, bp1, bp2, bp3, bk, kl, g3, g4, g11, g12, g13, hkk, hlenh, ne, hgh, hg, hset_hset, hii, e1, hget1, k2, b3, b4]
theorem f40s (hlen:p.nodes.l.length≤1000) (hkl:∀ n∈p.nodes.l,n.kids.l.length≤1000) (vl:Nd→Vl) (a:Loc) (N:Nat) (hN:N=p.nodes.l.length):∀ (ts:List Tr),IsTs p.nodes.l ts→WFs ts true→(∀ x∈ts,∀ s∈x.subs,AtomR p l xs vl s)→(Tr.pres ts).Nodup →
  ∀ x∈ts,∀ (h:Heap) (B:List Bool),hget h a=some (.arr 4 1 false (bB B))→a.1 < h.length→B.length=N→(∀ j∈x.pre,B[j]?=some false) →
   (mu K).fn 40 [p.av,l.avS Sc.av,xsAV xs,iV (x.i:Int),.own a N] h=some (.val (.bool (truth vl x)) (hset h a (.arr 4 1 false (bB (mark vl x B)))))
 | [],_,_,_,_,x,hx,_,_,_,_,_,_=>by simp at hx
 | t :: ts,hT,hW,hA,hnd,x,hx,h,B,h1,h2,h3,h4=>by
  simp only [Tr.pres] at hnd
  rcases List.mem_cons.1 hx with e | hx
  ·rw [e] at h4 ⊢
   exact f40 hlen hkl vl a N hN t hT.1 hW.1 (hA t (by simp)) (List.nodup_append.1 hnd).1 h B h1 h2 h3 h4
  ·exact f40s hlen hkl vl a N hN ts hT.2 hW.2 (fun y hy=>hA y (by simp [hy])) (List.nodup_append.1 hnd).2.1 x hx h B h1 h2 h3 h4
end
end
end Go.Ab.Pz
/-
  The reference of chapter 45: Truths, Holds;equal lists of bools.
-/
namespace Go.Ab.Pz
open Go.Ab.Pol
set_option maxRecDepth 100000
set_option maxHeartbeats 4000000
mutual
theorem subs_trans:∀ {t s u:Tr},s∈t.subs→u∈s.subs→u∈t.subs
 | .nd i n ks,s,u,hs,hu=>by
  simp only [Tr.subs,List.mem_cons] at hs
  rcases hs with rfl | hs
  ·exact hu
  ·simp only [Tr.subs,List.mem_cons]
   exact .inr (subss_trans hs hu)
theorem subss_trans:∀ {ts:List Tr} {s u:Tr},s∈Tr.subss ts→u∈s.subs→u∈Tr.subss ts
 | [],s,u,hs,_=>by simp [Tr.subss] at hs
 | t :: ts,s,u,hs,hu=>by
  simp only [Tr.subss,List.mem_append] at hs ⊢
  rcases hs with hs | hs
  ·exact .inl (subs_trans hs hu)
  ·exact .inr (subss_trans hs hu)
end
theorem atom_r {p:Po} {t:Tr} (g:Pol.Good p t) {l:Sl Sc} (hl:okL l) (hf:FitP p l.l t) {xs:Sl (Sl Int)} (h:admE p l.l xs.l=0):∀ s∈t.subs,AtomR p l xs (vlOf p l.l xs.l) s:=by
 intro s hs
 have hr:=ready_of hf.ready
 have hu:p.uses.l.length≤1000:=by have:=g.sizes;omega
 have V:=vals_of (p:=p) hr.sch h
 have hT:=subs_isT g.isT s hs
 obtain ⟨c,hW⟩:=subsW g.wf s hs
 have hC:=hf.conds s hs
 obtain ⟨i,n,ks⟩:=s
 obtain ⟨hn,hk,hks⟩:=hT
 obtain ⟨hfm,hw⟩:=hW
 obtain ⟨k0,k12,k8,hkid,_,hlo,hhi⟩:=form_parts hfm
 have lk:n.kids.l.length=ks.length:=by rw [hk];simp
 by_cases c8:n.k≤8
 ·have hct:c=true:=by rw [←k8];simp [c8]
  subst hct
  have ty:=fun h6:6≤n.k=>ty_of (ns:=p.nodes.l) (us:=p.uses.l) (l:=l.l) (.nd i n ks) ⟨hn,hk,hks⟩ ⟨hfm,hw⟩ (fun s' hs'=>by
   exact hf.conds s' (subs_trans hs hs'))
  refine ⟨fun h6 q hq hh=>?_,fun h6 a b hab=>?_,fun h7 a b c hab=>?_,fun h8 a r hab b hb=>?_⟩
  ·simp only [Tr.n,Tr.ks] at h6 hq
   obtain ⟨vs,e1,_⟩:=cond_parts (show n.k=6∨n.k=7∨n.k=8 by omega) hC
   have hq1:=(isTs_iff.1 hks) q hq
   have hq2:p.nodes.l[q.i]?=some q.n:=by cases q;exact hq1.1
   exact rv_of hu g.aliases hl hr.sch h hq2 (kids_vt e1 q hq) hh
  ·simp only [Tr.n,Tr.ks] at h6 hab ⊢
   subst hab
   have:=(ty (by omega)).2.2.2.2.1 h6
   exact ⟨this.1,same2_fits V this⟩
  ·simp only [Tr.n,Tr.ks] at h7 hab ⊢
   subst hab
   have:=(ty (by omega)).2.2.2.2.2.1 h7
   exact ⟨same2_fits V this.1,same2_fits V this.2⟩
  ·simp only [Tr.n,Tr.ks] at h8 hab ⊢
   subst hab
   have:=(ty (by omega)).2.2.2.2.2.2 h8 b (by simpa using hb)
   exact same2_fits V this
 ·have h0:n.kids.l.length=0:=by
   have:n.k=9∨n.k=10∨n.k=11:=by omega
   rcases this with q | q | q<;>simpa [kidsOk,q] using hkid
  have hk0:ks=[]:=List.length_eq_zero_iff.1 (by omega)
  subst hk0
  refine ⟨fun h6 q hq hh=>by simp [Tr.ks] at hq,fun h6 a b hab=>by simp [Tr.ks] at hab,fun h7 a b c hab=>by simp [Tr.ks] at hab,fun h8 a r hab b hb=>by simp [Tr.ks] at hab⟩
theorem f16_0 (p:Po) (hp:Sz p) (l:Sl Sc) (hl:okL l) (t:Tr) (ht:chk p=0→Pol.Good p t) (xs:Sl (Sl Int)) (h0:meanE p l.l t xs.l≠0) (h:Heap) :
  (mu K).fn 16 [p.av,l.avS Sc.av,xsAV xs] h=some (.val (.tup [.nils,iV (meanE p l.l t xs.l)]) h):=by
 have k39:=fun h=>f39 p hp l hl t ht xs h
 rw [fn_go (KX _ _ _) fn16 rfl (by simp [c16])]
 simp [c16,KL,lendF,k39,h0]
theorem f16_1 (p:Po) (hp:Sz p) (l:Sl Sc) (hl:okL l) (t:Tr) (g:Pol.Good p t) (xs:Sl (Sl Int)) (hf:FitP p l.l t) (h1:admE p l.l xs.l=0) (h:Heap) :
  (mu K).fn 16 [p.av,l.avS Sc.av,xsAV xs] h=some (.val (.tup [.lst (bB (mark (vlOf p l.l xs.l) t (List.replicate p.nodes.l.length false))),iV 0]) h):=by
 have k39:=fun h=>f39 p hp l hl t (fun _=>g) xs h
 have hm:meanE p l.l t xs.l=0:=by unfold meanE;rw [of_fit hf,if_neg (by simp)];exact h1
 rw [hm] at k39
 have hn:p.nodes.l.length≤1000:=hp.nodes.1
 have k40:=f40 (p:=p) (l:=l) (xs:=xs) hn (fun n hn=>(hp.nodes.2 n hn).2) (vlOf p l.l xs.l) (h.length,1) p.nodes.l.length rfl t g.isT g.wf (atom_r g hl hf h1) g.nodup
  ([.box 26 false p.av,.arr 4 1 false (bB (List.replicate p.nodes.l.length false))] :: h) (List.replicate p.nodes.l.length false) (by simp [hget]) (by simp) (by simp) (fun j hj=>by
   have:j < p.nodes.l.length:=all_lt g j hj
   simp [this])
 rw [g.root] at k40
 have hlen:=mark_len (vlOf p l.l xs.l) t (List.replicate p.nodes.l.length false)
 rw [List.length_replicate] at hlen
 generalize mark (vlOf p l.l xs.l) t (List.replicate p.nodes.l.length false)=M at *
 have r1:p.nodes.l.length≤room:=by unfold room;omega
 have bp1:=beq_avS _ beq_us p.uses
 have bp2:=beq_avS _ beq_rf p.reveal
 have bp3:=beq_avS _ beq_nd p.nodes
 have er:bB (List.replicate p.nodes.l.length false)=List.replicate p.nodes.l.length (.bool false):=by simp [bB]
 have eM:(bB M).length=p.nodes.l.length:=by simp [hlen]
 simp only [er] at k40
 generalize bB M=MB at *
 have hst:∀ x y:Blk,hset ([x,y] :: h) (h.length,1) (.arr 4 1 false MB)=[x,.arr 4 1 false MB] :: h:=fun x y=>by simp [hset]
 rw [hst] at k40
 rw [fn_go (KX _ _ _) fn16 rfl (by simp [c16])]
 simp [-List.map_replicate,c16,KL,lendF,k39,k40,r1,bp1,bp2,bp3,eM]
theorem f14_0 (p:Po) (hp:Sz p) (l:Sl Sc) (hl:okL l) (t:Tr) (ht:chk p=0→Pol.Good p t) (xs:Sl (Sl Int)) (h0:meanE p l.l t xs.l≠0) (h:Heap) :
  (mu K).fn 14 [p.av,l.avS Sc.av,xsAV xs] h=some (.val (.tup [.bool false,iV (meanE p l.l t xs.l)]) h):=by
 have k16:=fun h=>f16_0 p hp l hl t ht xs h0 h
 rw [fn_go (KX _ _ _) fn14 rfl (by simp [c14])]
 simp [c14,KL,lendF,k16,h0]
theorem f14_1 (p:Po) (hp:Sz p) (l:Sl Sc) (hl:okL l) (t:Tr) (g:Pol.Good p t) (xs:Sl (Sl Int)) (hf:FitP p l.l t) (h1:admE p l.l xs.l=0) (h:Heap) :
  (mu K).fn 14 [p.av,l.avS Sc.av,xsAV xs] h=some (.val (.tup [.bool (truth (vlOf p l.l xs.l) t),iV 0]) h):=by
 have k16:=fun h=>f16_1 p hp l hl t g xs hf h1 h
 have hi:t.i < p.nodes.l.length:=by
  have:=g.isT
  cases t with
  | nd i n ks=>exact (List.getElem?_eq_some_iff.1 this.1).1
 have hs:=mark_self (vlOf p l.l xs.l) t (List.replicate p.nodes.l.length false) (by simpa using hi)
 generalize mark (vlOf p l.l xs.l) t (List.replicate p.nodes.l.length false)=M at *
 have hr:=g.root
 have hix:=fun (k:IntKind)=>iaF_lst (sz:=1) (l:=bB M) (k:=k) (j:=p.root) (v:=.bool (truth (vlOf p l.l xs.l) t)) (by omega) (by
  rw [←hr,Int.toNat_natCast,List.getElem?_map,hs];rfl) rfl
 rw [fn_go (KX _ _ _) fn14 rfl (by simp [c14])]
 simp [c14,KL,lendF,k16,hix]
theorem f17_nil (h:Heap):(mu K).fn 17 [.nils,.nils] h=some (.val (.bool true) h):=by
 rw [fn_go (KX _ _ _) fn17 rfl (by simp [c17]),]
 have:∀ f,(mu K).code (.loopAt 0 [0,1,12,13] l17_0) ⟨[(0,.nils),(1,.nils),(12,iV 0),(13,iV 0)],f :: h⟩=some (.exit 0,⟨_,f :: h⟩):=fun f=>by
  rw [loop_go]
  generalize (mu K).code (.loopAt 0 [0,1,12,13] l17_0)=F
  simp [l17_0]
  rfl
 simp [c17,this]
theorem f17_lst (B:List Bool) (hB:B.length≤1000) (h:Heap):(mu K).fn 17 [.lst (bB B),.lst (bB B)] h=some (.val (.bool true) h):=by
 have key:=loop_iter (K:=K) (n:=0) (live:=[0,1,12,13]) (a:=l17_0) (fun (_:Unit) (_:Bool)=>(.inl ():Unit ⊕ Unit))
  (fun pre _=>⟨[(0,.lst (bB B)),(1,.lst (bB B)),(12,iV (B.length:Int)),(13,iV (pre.length:Int))],[] :: h⟩) (fun _ _=>True)
  (fun _ o=>∃ env,o=some (.exit 0,⟨env,[] :: h⟩)) (fun _ _=>False) B
  (fun pre x r b hl' _=>by
   obtain ⟨h1,h2,w1⟩:=idx_facts hl' (by omega)
   have hix:=fun (k:IntKind)=>iaF_lst (sz:=1) (l:=bB B) (k:=k) (j:=(pre.length:Int)) (v:=.bool x) (by omega) (by simp [h2]) rfl
   refine ⟨fun b' e=>⟨trivial,?_⟩,fun _ e=>(by cases e)⟩
   rw [loop_go]
   generalize (mu K).code (.loopAt 0 [0,1,12,13] l17_0)=F
   clear hl'
   simp [l17_0,h1,hix,w1])
  (fun b _=>by
   rw [loop_go]
   generalize (mu K).code (.loopAt 0 [0,1,12,13] l17_0)=F
   simp [l17_0]) () trivial
 have hi:∀ L:List Bool,iter (fun (_:Unit) (_:Bool)=>(.inl ():Unit ⊕ Unit)) () L=.inl ():=fun L=>by
  induction L with
  | nil=>rfl
  | cons x L ih=>simp only [iter];exact ih
 rw [hi] at key
 obtain ⟨_,env,k⟩:=key
 simp only [List.length_nil,Int.natCast_zero] at k
 have hl:(bB B).length=B.length:=by simp
 generalize bB B=BB at *
 rw [fn_go (KX _ _ _) fn17 rfl (by simp [c17])]
 simp [c17,hl,k]
end Go.Ab.Pz
