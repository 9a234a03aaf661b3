/-
  The statement MeaningIgnores on the evaluator: its loops.
-/
import Derived.Test.YtfpmflgjbpnkjaaAb41P109
import Derived.Test.YtfpmflgjbpnkjaaAb41P18b
import Derived.Test.YtfpmflgjbpnkjaaAb41P88
import Derived.Test.YtfpmflgjbpnkjaaAb41P65
set_option linter.unusedVariables false
set_option linter.unusedSimpArgs false
set_option linter.unusedSectionVars false
namespace Go.Ab.Pl
open Go.Ab.Pol
set_option maxRecDepth 100000
set_option maxHeartbeats 4000000
theorem getC {α:Type} {M:List α} {i:Nat} {v:α} (h:M[i]?=some v):∀ hh,M[i]'hh=v:=fun hh=>by
 have:=List.getElem?_eq_getElem hh
 rw [h] at this
 injection this with this
 exact this.symm
def plB (p:Po) (l:List Sc) (i k:Nat) (r:Rf):Bool:=match findF p.uses.l l r with
 | some (u,j,_)=>decide (i=u) && decide (k=j)
 | none=>false
abbrev b94 (a0 a1:Int):Blk:=.box 94 false (.agg [.int .u8 a0,.int .u8 a1])
theorem l19_0_ok (p:Po) (z:Sz p) (l:Sl Sc) (zl:okL l) (hr:readyE p l.l=0) (xs:Sl (Sl Int)) (a0 a1 n:Int) (a:Bool) (i k:Nat) (hk:k≤1000000) (L:List Rf) (hL:L.length≤1000000) (hf:∀ r∈L,∃ q,findF p.uses.l l.l r=some q∧q.2.1≤1000000) :
  ((L.all fun r=>!plB p l.l i k r)=true→∃ env,(mu K2).code (.loopAt 2 [2,3,7,9,10,70,71,72] l19_0) ⟨[(2,iV n),(3,.ptr (0,0) 0),(7,.bool a),(9,iV (i:Int)),(10,iV (k:Int)),(70,.lst (L.map Rf.av)),(71,iV (L.length:Int)),(72,iV 0)],[[.box 83 false (caseAV p l xs),b94 a0 a1]]⟩ =
    some (.exit 0,⟨env,[[.box 83 false (caseAV p l xs),b94 a0 a1]]⟩)∧get env 2=iV n∧get env 3=.ptr (0,0) 0∧get env 7=.bool a∧get env 9=iV (i:Int)∧get env 10=iV (k:Int)) ∧
  ((L.all fun r=>!plB p l.l i k r)=false→∃ env R,(mu K2).code (.loopAt 2 [2,3,7,9,10,70,71,72] l19_0) ⟨[(2,iV n),(3,.ptr (0,0) 0),(7,.bool a),(9,iV (i:Int)),(10,iV (k:Int)),(70,.lst (L.map Rf.av)),(71,iV (L.length:Int)),(72,iV 0)],[[.box 83 false (caseAV p l xs),b94 a0 a1]]⟩ =
    some (.ret,⟨env,[R]⟩)∧get env 6=.bool true):=by
 have q1:=beq_avS _ beq_us p.uses
 have q2:=beq_avS _ beq_rf p.reveal
 have q3:=beq_avS _ beq_nd p.nodes
 have q4:=beq_avS _ beq_sc l
 have q5:=beq_avS _ beq_ints xs
 have aw:=fun f=>up (awake45 f)
 have key:=loop_iter (K:=K2) (n:=2) (live:=[2,3,7,9,10,70,71,72]) (a:=l19_0) (fun (_:Unit) (r:Rf)=>if (!plB p l.l i k r)=true then (.inl ():Unit ⊕ Unit) else .inr ())
  (fun pre _=>⟨[(2,iV n),(3,.ptr (0,0) 0),(7,.bool a),(9,iV (i:Int)),(10,iV (k:Int)),(70,.lst (L.map Rf.av)),(71,iV (L.length:Int)),(72,iV (pre.length:Int))],[[.box 83 false (caseAV p l xs),b94 a0 a1]]⟩) (fun _ _=>True)
  (fun _ o=>∃ env,o=some (.exit 0,⟨env,[[.box 83 false (caseAV p l xs),b94 a0 a1]]⟩)∧get env 2=iV n∧get env 3=.ptr (0,0) 0∧get env 7=.bool a∧get env 9=iV (i:Int)∧get env 10=iV (k:Int))
  (fun _ o=>∃ env R,o=some (.ret,⟨env,[R]⟩)∧get env 6=.bool true) L
  (fun pre r rr b hl' hb=>by
   obtain ⟨h1,h2,w1⟩:=idx_facts hl' (by omega)
   obtain ⟨⟨u,j,f⟩,e,hj⟩:=hf r (List.mem_of_getElem? h2)
   simp only at hj
   have hix:=fun (k:IntKind)=>iaF_lst (sz:=2) (l:=L.map Rf.av) (k:=k) (j:=(pre.length:Int)) (v:=r.av) (by omega) (by simp [h2]) rfl
   have k40:=fun h=>up (f40 p z l zl r h)
   have e2:fieldR p l.l r=(some (u,j,f),0):=by unfold fieldR;rw [if_neg (by simp [hr]),e]
   rw [e2] at k40
   simp only [plAV,fdAV] at k40
   have w2:IntKind.i64.wrap ((k:Int)+2)=(k:Int)+2:=wrap64 (by omega) (by omega)
   have qf:=beq_avS _ beq_strS f.words
   have ep:plB p l.l i k r=(decide (i=u) && decide (k=j)):=by unfold plB;rw [e]
   rw [ep]
   rw [loop_go]
   generalize (mu K2).code (.loopAt 2 [2,3,7,9,10,70,71,72] l19_0)=F
   generalize L.map Rf.av=LA at *
   clear hl'
   obtain ⟨r1,r2⟩:=r
   simp only [caseAV,Po.cs,List.cons_append,List.nil_append] at k40 ⊢
   by_cases c1:i=u
   ·by_cases c2:k=j
    ·subst c1 c2
     simp [l19_0,KL2,lendF,h1,hix,w1,w2,k40,q1,q2,q3,q4,q5,qf,aw,eqFs,eqF]
    ·have c2':((j:Int)+2=(k:Int)+2)=False:=eq_false (by omega)
     have c3:(j=k)=False:=eq_false (by omega)
     subst c1
     simp [l19_0,KL2,lendF,h1,hix,w1,w2,k40,q1,q2,q3,q4,q5,qf,aw,eqFs,eqF,c2,c2',c3]
   ·have c1':((u:Int)=(i:Int))=False:=eq_false (by omega)
    have c3:(u=i)=False:=eq_false (by omega)
    simp [l19_0,KL2,lendF,h1,hix,w1,w2,k40,q1,q2,q3,q4,q5,qf,aw,eqFs,eqF,c1,c1',c3])
  (fun b _=>by
   rw [loop_go]
   generalize (mu K2).code (.loopAt 2 [2,3,7,9,10,70,71,72] l19_0)=F
   simp [l19_0]) () trivial
 simp only [List.length_nil,Int.natCast_zero] at key
 refine ⟨fun e=>?_,fun e=>?_⟩
 ·rw [(iter_all (fun r=>!plB p l.l i k r) L).1 e] at key
  exact key.2
 ·rw [(iter_all (fun r=>!plB p l.l i k r) L).2 e] at key
  exact key
abbrev H19 (p:Po) (l:Sl Sc) (xs:Sl (Sl Int)) (a0 a1:Int) (E:List AV) (B:List Blk):Heap:=[.box 83 false (caseAV p l xs) :: b94 a0 a1 :: .arv 43 1 E :: B]
theorem l19_1_ok (p:Po) (l:Sl Sc) (xs:Sl (Sl Int)) (hx:xs.l.length≤1000) (hxr:∀ r∈xs.l,r.l.length≤1000) (a0 a1 n:Int) (a:Bool) (i k:Int) :
  ∃ env,(mu K2).code (.loopAt 3 [2,3,7,9,10,16,107,108] l19_1) ⟨[(2,iV n),(3,.ptr (0,0) 0),(7,.bool a),(9,iV i),(10,iV k),(16,.own (0,2) xs.l.length),(107,iV (xs.l.length:Int)),(108,iV 0)],H19 p l xs a0 a1 (List.replicate xs.l.length .nils) []⟩ =
   some (.exit 2,⟨env,H19 p l xs a0 a1 (ysOf 3 xs.l) (bksOf false xs.l)⟩)∧get env 2=iV n∧get env 3=.ptr (0,0) 0∧get env 7=.bool a∧get env 9=iV i∧get env 10=iV k∧get env 16=.own (0,2) xs.l.length:=by
 have q4:=beq_avS _ beq_sc l
 have q5:=beq_avS _ beq_ints xs
 have key:=loop_iter (K:=K2) (n:=3) (live:=[2,3,7,9,10,16,107,108]) (a:=l19_1) (ρ:=Unit) (fun (_:Unit) (r:Sl Int)=>(.inl ():Unit ⊕ Unit))
  (fun pre _=>⟨[(2,iV n),(3,.ptr (0,0) 0),(7,.bool a),(9,iV i),(10,iV k),(16,.own (0,2) xs.l.length),(107,iV (xs.l.length:Int)),(108,iV (pre.length:Int))],H19 p l xs a0 a1 (ysOf 3 pre++List.replicate (xs.l.length - pre.length) .nils) (bksOf false pre)⟩) (fun _ _=>True)
  (fun _ o=>∃ env,o=some (.exit 2,⟨env,H19 p l xs a0 a1 (ysOf 3 xs.l) (bksOf false xs.l)⟩)∧get env 2=iV n∧get env 3=.ptr (0,0) 0∧get env 7=.bool a∧get env 9=iV i∧get env 10=iV k∧get env 16=.own (0,2) xs.l.length)
  (fun _ _=>False) xs.l
  (fun pre r rr b hl' hb=>by
   obtain ⟨h1,h2,w1⟩:=idx_facts hl' (by omega)
   have hp:pre.length < xs.l.length:=(List.getElem?_eq_some_iff.1 h2).1
   have hix:=fun (k:IntKind)=>iaF_sl (av:=fun s:Sl Int=>s.avS iV) (sz:=1) (s:=xs) (k:=k) (j:=(pre.length:Int)) (x:=r) (by omega) (by simpa using h2) (cells_avS iV r)
   have k58:∀ Fr h,(mu K2).fn 58 [r.avS iV] (Fr :: h)=if r.l=[] then some (.val (r.avS iV) (Fr :: h)) else some (.val (.own (h.length,Fr.length) r.l.length) ((Fr++[.arr 3 1 false (r.l.map iV)]) :: h)):=fun Fr h=>by
    have:=f58 r (hxr r (List.mem_of_getElem? h2)) Fr h
    by_cases c:r.l=[]
    ·rw [if_pos c] at this ⊢;exact up this
    ·rw [if_neg c] at this ⊢;exact up this
   have hyl:=ysOf_len pre 3
   have e1:xs.l.length - pre.length=(xs.l.length - (pre++[r]).length)+1:=by simp;omega
   have hEl:(ysOf 3 pre++List.replicate (xs.l.length - pre.length) AV.nils).length=xs.l.length:=by simp [hyl];omega
   have hEg:(ysOf 3 pre++List.replicate (xs.l.length - pre.length) AV.nils)[pre.length]?=some .nils:=by
    rw [List.getElem?_append_right (by omega),hyl,e1]
    simp
   have hEs:∀ v,(ysOf 3 pre++List.replicate (xs.l.length - pre.length) AV.nils).set pre.length v=ysOf 3 pre++v :: List.replicate (xs.l.length - (pre++[r]).length) AV.nils:=fun v=>by
    rw [List.set_append_right _ _ (by omega),hyl,e1]
    simp [List.replicate_succ]
   have hsn:=ysOf_snoc pre 3 r
   have hbn:=bksOf_snoc false pre r
   have hne:∀ P:Loc→Bool,bksOf false (pre++[r])≠[]→P (0,3)=false→AV.refOks P (ysOf 3 (pre++[r])++List.replicate (xs.l.length - (pre++[r]).length) AV.nils)=false:=fun P h1 h2=>ysOf_ref _ _ _ h1 h2
   refine ⟨fun b' e=>⟨trivial,?_⟩,fun _ e=>by cases e⟩
   rw [loop_go]
   generalize (mu K2).code (.loopAt 3 [2,3,7,9,10,16,107,108] l19_1)=F
   have eE2:ysOf 3 (pre++[r])++List.replicate (xs.l.length - (pre++[r]).length) AV.nils=ysOf 3 pre++(if r.l=[] then r.avS iV else .own (0,3+(bksOf false pre).length) r.l.length) :: List.replicate (xs.l.length - (pre++[r]).length) AV.nils:=by
    rw [hsn,List.append_assoc];rfl
   rw [eE2] at hne ⊢
   rw [←hEs] at hne ⊢
   rw [hbn] at hne ⊢
   generalize ysOf 3 pre++List.replicate (xs.l.length - pre.length) AV.nils=E at *
   generalize bksOf false pre=B at *
   have hEg2:=getC hEg
   clear hl' hEs hsn hbn eE2
   have hpl:((pre++[r]).length:Int)=(pre.length:Int)+1:=by simp
   rw [hpl]
   by_cases c:r.l=[]
   ·simp only [c,if_true,List.append_nil] at k58 hne ⊢
    simp only [H19,caseAV,Po.cs,List.cons_append,List.nil_append]
    by_cases cB:B=[]
    ·subst cB
     simp [l19_1,KL2,lendF,h1,hp,hix,w1,k58,hEl,hEg,hEg2,q4,q5]
    ·have cB':(B=[])=False:=eq_false cB
     have hne2:=fun P=>hne P cB
     simp [l19_1,KL2,lendF,h1,hp,hix,w1,k58,hEl,hEg,hEg2,q4,q5,cB',hne2]
   ·simp only [c,if_false] at k58 hne ⊢
    have hne2:=fun P=>hne P (by simp)
    simp only [H19,caseAV,Po.cs,List.cons_append,List.nil_append]
    have e5:3+B.length=B.length+1+1+1:=by omega
    rw [e5] at hne2 ⊢
    simp [l19_1,KL2,lendF,h1,hp,hix,w1,k58,hEl,hEg,hEg2,q4,q5,hne2])
  (fun b _=>by
   have e1:xs.l.length - xs.l.length=0:=by omega
   rw [loop_go]
   generalize (mu K2).code (.loopAt 3 [2,3,7,9,10,16,107,108] l19_1)=F
   rw [e1]
   simp only [H19,caseAV,Po.cs,List.cons_append,List.nil_append,List.replicate_zero,List.append_nil]
   simp [l19_1]) () trivial
 have e:iter (fun (_:Unit) (r:Sl Int)=>(.inl ():Unit ⊕ Unit)) () xs.l=.inl ():=by
  generalize xs.l=l
  induction l with
  | nil=>rfl
  | cons x l ih=>simpa [iter] using ih
 rw [e] at key
 simpa [ysOf,bksOf] using key.2
end Go.Ab.Pl
