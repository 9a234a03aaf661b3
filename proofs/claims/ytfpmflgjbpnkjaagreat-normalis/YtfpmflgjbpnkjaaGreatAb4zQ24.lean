/-
  The reference's normal form: comparisons of two values.
-/
import Derived.Test.YtfpmflgjbpnkjaaGreatAb4zQ23
import Derived.Test.YtfpmflgjbpnkjaaGreatAb4zP94
set_option linter.unusedVariables false
set_option linter.unusedSimpArgs false
set_option linter.unusedSectionVars false
namespace Go.Ab.Pz
open Go.Ab.Pol
set_option maxRecDepth 100000
set_option maxHeartbeats 4000000
theorem p82_body:c82.body=.code (.seq p82_0 (.seq p82_1 (.seq p82_2 (.seq p82_3 (.seq p82_4 (.seq p82_5 (.seq p82_6 (.seq p82_7 (.seq p82_8 (.seq p82_9 (.seq p82_10 (.seq p82_11 (.seq p82_12 (.seq p82_13 (.seq p82_14 (.seq p82_15 (.seq p82_16 p82_17))))))))))))))))):=rfl
abbrev z7:AV:=.agg [iV 0,iV 0,.str [],.str [],.nils,iV 0,.nils]
structure E82 (env:Env) (b0:Loc) (how:Int) (n:Nat):Prop where
 g0:get env 0=.ptr b0 0
 g1:get env 1=iV how
 g6:get env 6=.ptr (n,0) 0
 g7:get env 7=.ptr (n,1) 0
 g8:get env 8=.ptr (n,2) 0
abbrev F82 (a b:Nd):List Blk:=[.box 63 false a.av,.box 63 false b.av,.box 109 false z7]
section
variable (p:Po) (hp:Sz p) (l:Sl Sc) (hl:okL l) (b0:Loc) (h:Heap)
theorem p82_a (how:Int) (hh:How how) (a b:Nd) (lb:b0.1 < h.length) :
  ∃ env',evC K (mu K) (.seq p82_0 p82_1) ⟨envOf 0 [.ptr b0 0,iV how,a.av,b.av],[] :: h⟩=some (.norm,⟨env',(if a.k≠9∧b.k=9 then F82 b a else F82 a b) :: h⟩) ∧
   E82 env' b0 (if a.k≠9∧b.k=9 then mirror how else how) h.length:=by
 have n1:(b0.1=h.length)=False:=eq_false (by omega)
 have qa:=beq_avS _ beq_iV a.kids
 have qb:=beq_avS _ beq_iV b.kids
 have km:=fun h=>f128 how hh h
 have mk:∀ {env:Env} {how:Int},(get env 0=.ptr b0 0∧get env 1=iV how∧get env 6=.ptr (h.length,0) 0∧get env 7=.ptr (h.length,1) 0∧get env 8=.ptr (h.length,2) 0)→E82 env b0 how h.length:=fun ⟨a,b,c,d,e⟩=>⟨a,b,c,d,e⟩
 by_cases c:a.k=9
 ·have d:¬ (a.k≠9∧b.k=9):=fun q=>q.1 c
  simp only [if_neg d]
  suffices ∃ env',_∧_ from let ⟨e,x,y⟩:=this;⟨e,x,mk y⟩
  simp [p82_0,p82_1,KL,lendF,n1,qa,qb,km,c]
 ·by_cases c2:b.k=9
  ·simp only [if_pos (show a.k≠9∧b.k=9 from ⟨c,c2⟩)]
   suffices ∃ env',_∧_ from let ⟨e,x,y⟩:=this;⟨e,x,mk y⟩
   have c2':(b.k=9)=True:=eq_true c2
   simp [p82_0,p82_1,KL,lendF,n1,qa,qb,km,c,c2']
  ·have d:¬ (a.k≠9∧b.k=9):=fun q=>c2 q.2
   simp only [if_neg d]
   suffices ∃ env',_∧_ from let ⟨e,x,y⟩:=this;⟨e,x,mk y⟩
   simp [p82_0,p82_1,KL,lendF,n1,qa,qb,km,c,c2]
abbrev R82:CC:=.seq p82_8 (.seq p82_9 (.seq p82_10 (.seq p82_11 (.seq p82_12 (.seq p82_13 (.seq p82_14 (.seq p82_15 (.seq p82_16 p82_17))))))))
def late (fd:Nd→Pol.Fd) (a b:Nd):Prop:=¬ (a.k=10∧b.k=10)∧¬ (a.k=11∧b.k=11)∧¬ b.k=10∧¬ (fd a).kind=1∧¬ (a.nm=b.nm∧a.attr=b.attr)
include hp hl
theorem p82_e (how:Int) (hh:How how) (a b:Nd) (hb32:Nm32 b) (hb:hget h b0=some (.box 105 false (mkAV p l))) (lb:b0.1 < h.length) (env:Env) (he:E82 env b0 how h.length) (hlate:¬ late (fdOf p.uses.l l.l) a b) :
  goF c82.res (evC K (mu K) (.seq p82_2 (.seq p82_3 (.seq p82_4 (.seq p82_5 (.seq p82_6 (.seq p82_7 R82)))))) ⟨env,F82 a b :: h⟩)=some (.val (rcAV (rvalues1 (fdOf p.uses.l l.l) how a b)) h):=by
 obtain ⟨g0,g1,g6,g7,g8⟩:=he
 have n1:(b0.1=h.length)=False:=eq_false (by omega)
 have qa:=beq_avS _ beq_iV a.kids
 have qb:=beq_avS _ beq_iV b.kids
 have k81:=fun b h=>f81 b h
 have k129:=fun a b h=>f129 how hh a b h
 have k132:=fun h=>f132 how a b h
 have k133:=fun n h=>f133 n h
 have up0:∀ F,hget (F :: h) b0=some (.box 105 false (mkAV p l)):=fun F=>by simp only [hget];rw [if_neg (by omega)];exact hb
 have k130:=fun F=>f130 p hp l hl b0 (F :: h) (up0 F) (by simp only [List.length_cons];omega) a
 have k131:=fun hb F=>f131 p hp l hl b0 how hh a b.num hb (F :: h) (up0 F) (by simp only [List.length_cons];omega)
 unfold rvalues1
 unfold late at hlate
 generalize hB:bounded (fdOf p.uses.l l.l) how a b.num=BB at *
 generalize fdOf p.uses.l l.l a=f at *
 have qf:=beq_avS _ beq_strS f.words
 by_cases c1:a.k=10∧b.k=10
 ·rw [if_pos c1]
  have a1:(a.k=10)=True:=eq_true c1.1
  have a2:(b.k=10)=True:=eq_true c1.2
  simp [p82_2,c82,KL,lendF,g0,g1,g6,g7,g8,n1,qa,qb,k81,k129,a1,a2,cB,rK,rN,rS,lv]
 rw [if_neg c1]
 by_cases c2:a.k=11∧b.k=11
 ·rw [if_pos c2]
  have a0:(a.k=10)=False:=eq_false (by omega)
  have a1:(a.k=11)=True:=eq_true c2.1
  have a2:(b.k=11)=True:=eq_true c2.2
  simp [p82_2,p82_3,c82,KL,lendF,g0,g1,g6,g7,g8,n1,qa,qb,k81,k129,a0,a1,a2,cB,rK,rN,rS,lv]
 rw [if_neg c2]
 have sim:∀ (q:Bool),q=true→True:=fun _ _=>trivial
 by_cases c3:b.k=10
 ·rw [if_pos c3]
  have a0:(a.k=10)=False:=eq_false (fun e=>c1 ⟨e,c3⟩)
  have a2:(b.k=10)=True:=eq_true c3
  have b11:(b.k=11)=False:=eq_false (by omega)
  have k131:=k131 (hb32 c3)
  by_cases a11:a.k=11
  ·have a11':(a.k=11)=True:=eq_true a11
   simp [p82_2,p82_3,p82_4,p82_5,c82,KL,lendF,g0,g1,g6,g7,g8,n1,qa,qb,qf,k130,k131,a0,a2,a11',b11]
  ·simp [p82_2,p82_3,p82_4,p82_5,c82,KL,lendF,g0,g1,g6,g7,g8,n1,qa,qb,qf,k130,k131,a0,a2,a11]
 rw [if_neg c3]
 have b10:(b.k=10)=False:=eq_false c3
 have go:∀ (x:Cd),(∀ (H11:(a.k=11∧b.k=11)=False),goF c82.res (goS K (mu K) (.seq p82_6 (.seq p82_7 R82)) (evC K (mu K) (.seq p82_2 (.seq p82_3 (.seq p82_4 p82_5))) ⟨env,F82 a b :: h⟩))=some (.val (rcAV x) h)) →
   goF c82.res (evC K (mu K) (.seq p82_2 (.seq p82_3 (.seq p82_4 (.seq p82_5 (.seq p82_6 (.seq p82_7 R82)))))) ⟨env,F82 a b :: h⟩)=some (.val (rcAV x) h):=fun x hx=>by
  rw [←hx (eq_false c2)]
  simp only [c_seq]
  generalize evC K (mu K) p82_2 ⟨env,F82 a b :: h⟩=s0
  simp only [go_assoc]
 have mid:∃ env',evC K (mu K) (.seq p82_2 (.seq p82_3 (.seq p82_4 p82_5))) ⟨env,F82 a b :: h⟩=some (.norm,⟨env',(F82 a b++[.box 60 false f.av]) :: h⟩)∧get env' 0=.ptr b0 0∧get env' 1=iV how∧get env' 6=.ptr (h.length,0) 0∧get env' 7=.ptr (h.length,1) 0∧get env' 8=.ptr (h.length,2) 0∧get env' 9=.ptr (h.length,3) 0:=by
  by_cases a10:a.k=10
  ·have a10':(a.k=10)=True:=eq_true a10
   have a11:(a.k=11)=False:=eq_false (by omega)
   simp [p82_2,p82_3,p82_4,p82_5,KL,lendF,g0,g1,g6,g7,g8,n1,qa,qb,qf,k130,a10',a11,b10]
  ·by_cases a11:a.k=11
   ·have a11':(a.k=11)=True:=eq_true a11
    have b11:(b.k=11)=False:=eq_false (fun e=>c2 ⟨a11,e⟩)
    simp [p82_2,p82_3,p82_4,p82_5,KL,lendF,g0,g1,g6,g7,g8,n1,qa,qb,qf,k130,a10,a11',b11,b10]
   ·simp [p82_2,p82_3,p82_4,p82_5,KL,lendF,g0,g1,g6,g7,g8,n1,qa,qb,qf,k130,a10,a11,b10]
 obtain ⟨env',km,e0,e1,e6,e7,e8,e9⟩:=mid
 refine go _ fun _=>?_
 rw [km,goS_norm]
 by_cases c4:f.kind=1
 ·rw [if_pos c4]
  have c4':(f.kind=1)=True:=eq_true c4
  by_cases w1:f.words.l.length=1
  ·rw [if_pos (.inl w1)]
   simp [p82_6,c82,KL,lendF,e0,e1,e6,e7,e8,e9,n1,qa,qb,qf,k81,c4',w1,cB,rK,rN,rS,lv]
  ·have w1':((f.words.l.length:Int)=1)=False:=by simp;omega
   by_cases b9:b.k=9
   ·have b9':(b.k=9)=True:=eq_true b9
    by_cases e10:a.nm=b.nm
    ·have e10':(a.nm=b.nm)=True:=eq_true e10
     by_cases e11:a.attr=b.attr
     ·rw [if_pos (.inr ⟨b9,e10,e11⟩)]
      have e11':(a.attr=b.attr)=True:=eq_true e11
      simp [p82_6,c82,KL,lendF,e0,e1,e6,e7,e8,e9,n1,qa,qb,qf,k81,c4',w1',b9',e10',e11',cB,rK,rN,rS,lv]
     ·rw [if_neg (fun q=>q.elim w1 fun r=>e11 r.2.2)]
      simp [p82_6,c82,KL,lendF,e0,e1,e6,e7,e8,e9,n1,qa,qb,qf,k132,k133,c4',w1',b9',e10',e11,relC,rK,rN,rS,lv]
    ·rw [if_neg (fun q=>q.elim w1 fun r=>e10 r.2.1)]
     simp [p82_6,c82,KL,lendF,e0,e1,e6,e7,e8,e9,n1,qa,qb,qf,k132,k133,c4',w1',b9',e10,relC,rK,rN,rS,lv]
   ·rw [if_neg (fun q=>q.elim w1 fun r=>b9 r.1)]
    simp [p82_6,c82,KL,lendF,e0,e1,e6,e7,e8,e9,n1,qa,qb,qf,k132,k133,c4',w1',b9,relC,rK,rN,rS,lv]
 rw [if_neg c4]
 by_cases c5:a.nm=b.nm∧a.attr=b.attr
 ·rw [if_pos c5]
  have a1:(a.nm=b.nm)=True:=eq_true c5.1
  have a2:(a.attr=b.attr)=True:=eq_true c5.2
  simp [p82_6,p82_7,c82,KL,lendF,e0,e1,e6,e7,e8,e9,n1,qa,qb,qf,k81,k129,c4,a1,a2,cB,rK,rN,rS,lv]
 ·exact absurd ⟨c1,c2,c3,c4,c5⟩ hlate
theorem p82_l (how:Int) (a b:Nd) (hb:hget h b0=some (.box 105 false (mkAV p l))) (lb:b0.1 < h.length) (env:Env) (he:E82 env b0 how h.length) (hlate:late (fdOf p.uses.l l.l) a b) :
  ∃ env',evC K (mu K) (.seq p82_2 (.seq p82_3 (.seq p82_4 (.seq p82_5 (.seq p82_6 p82_7))))) ⟨env,F82 a b :: h⟩=some (.norm,⟨env',(F82 a b++[.box 60 false (fdOf p.uses.l l.l a).av]) :: h⟩)∧E82 env' b0 how h.length:=by
 obtain ⟨g0,g1,g6,g7,g8⟩:=he
 obtain ⟨c1,c2,c3,c4,c5⟩:=hlate
 have n1:(b0.1=h.length)=False:=eq_false (by omega)
 have qa:=beq_avS _ beq_iV a.kids
 have qb:=beq_avS _ beq_iV b.kids
 have up0:∀ F,hget (F :: h) b0=some (.box 105 false (mkAV p l)):=fun F=>by simp only [hget];rw [if_neg (by omega)];exact hb
 have k130:=fun F=>f130 p hp l hl b0 (F :: h) (up0 F) (by simp only [List.length_cons];omega) a
 generalize fdOf p.uses.l l.l a=f at *
 have qf:=beq_avS _ beq_strS f.words
 have b10:(b.k=10)=False:=eq_false c3
 have mk:∀ {env:Env} {how:Int},(get env 0=.ptr b0 0∧get env 1=iV how∧get env 6=.ptr (h.length,0) 0∧get env 7=.ptr (h.length,1) 0∧get env 8=.ptr (h.length,2) 0)→E82 env b0 how h.length:=fun ⟨a,b,c,d,e⟩=>⟨a,b,c,d,e⟩
 suffices ∃ env',_∧_ from let ⟨e,x,y⟩:=this;⟨e,x,mk y⟩
 have fin:∀ (A10:(a.k=10)=True∨(a.k=10)=False) (A11:(a.k=11)=True∨(a.k=11)=False) (N1:(a.nm=b.nm)=True∨(a.nm=b.nm)=False),True:=fun _ _ _=>trivial
 by_cases e10:a.nm=b.nm
 ·have e11:¬ a.attr=b.attr:=fun e=>c5 ⟨e10,e⟩
  have e10':(a.nm=b.nm)=True:=eq_true e10
  by_cases a10:a.k=10
  ·have a10':(a.k=10)=True:=eq_true a10
   have a11:(a.k=11)=False:=eq_false (by omega)
   simp [p82_2,p82_3,p82_4,p82_5,p82_6,p82_7,KL,lendF,g0,g1,g6,g7,g8,n1,qa,qb,qf,k130,a10',a11,b10,c4,e10',e11]
  ·by_cases a11:a.k=11
   ·have a11':(a.k=11)=True:=eq_true a11
    have b11:(b.k=11)=False:=eq_false (fun e=>c2 ⟨a11,e⟩)
    simp [p82_2,p82_3,p82_4,p82_5,p82_6,p82_7,KL,lendF,g0,g1,g6,g7,g8,n1,qa,qb,qf,k130,a10,a11',b11,b10,c4,e10',e11]
   ·simp [p82_2,p82_3,p82_4,p82_5,p82_6,p82_7,KL,lendF,g0,g1,g6,g7,g8,n1,qa,qb,qf,k130,a10,a11,b10,c4,e10',e11]
 ·by_cases a10:a.k=10
  ·have a10':(a.k=10)=True:=eq_true a10
   have a11:(a.k=11)=False:=eq_false (by omega)
   simp [p82_2,p82_3,p82_4,p82_5,p82_6,p82_7,KL,lendF,g0,g1,g6,g7,g8,n1,qa,qb,qf,k130,a10',a11,b10,c4,e10]
  ·by_cases a11:a.k=11
   ·have a11':(a.k=11)=True:=eq_true a11
    have b11:(b.k=11)=False:=eq_false (fun e=>c2 ⟨a11,e⟩)
    simp [p82_2,p82_3,p82_4,p82_5,p82_6,p82_7,KL,lendF,g0,g1,g6,g7,g8,n1,qa,qb,qf,k130,a10,a11',b11,b10,c4,e10]
   ·simp [p82_2,p82_3,p82_4,p82_5,p82_6,p82_7,KL,lendF,g0,g1,g6,g7,g8,n1,qa,qb,qf,k130,a10,a11,b10,c4,e10]
end
end Go.Ab.Pz
