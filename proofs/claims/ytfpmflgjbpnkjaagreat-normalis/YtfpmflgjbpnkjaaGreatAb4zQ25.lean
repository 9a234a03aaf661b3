/-
  The reference's normal form: comparisons of two number fields; of two values.
-/
import Derived.Test.YtfpmflgjbpnkjaaGreatAb4zQ24
set_option linter.unusedVariables false
set_option linter.unusedSimpArgs false
set_option linter.unusedSectionVars false
namespace Go.Ab.Pz
open Go.Ab.Pol
set_option maxRecDepth 100000
set_option maxHeartbeats 4000000
structure E83 (env:Env) (how:Int) (n:Nat):Prop where
 g1:get env 1=iV how
 g6:get env 6=.ptr (n,0) 0
 g7:get env 7=.ptr (n,1) 0
 g8:get env 8=.ptr (n,2) 0
abbrev F83 (a b:Nd) (e f g:Pol.Fd):List Blk:=[.box 63 false a.av,.box 63 false b.av,.box 109 false z7,.box 60 false e.av,.box 60 false f.av,.box 60 false g.av]
section
variable (h:Heap)
theorem p82_d (a b:Nd) (e f g:Pol.Fd) (xf:FdX f) (xg:FdX g) (how:Int) (h3:how=0∨how=1∨how=2∨how=3) (env:Env) (he:E83 env how h.length) (e10:get env 10=.ptr (h.length,4) 0) (e11:get env 11=.ptr (h.length,5) 0) :
  ∃ env',evC K (mu K) (.seq p82_10 (.seq p82_11 (.seq p82_12 (.seq p82_13 p82_14)))) ⟨env,F83 a b e f g :: h⟩=some (.norm,⟨env',F83 a b e f g :: h⟩)∧E83 env' how h.length ∧
   get env' 14=.bool (alwB how (f.mn - g.mx) (f.mx - g.mn))∧get env' 15=.bool (nevB how (f.mn - g.mx) (f.mx - g.mn)):=by
 obtain ⟨g1,g6,g7,g8⟩:=he
 obtain ⟨fk,f1,f2,f3⟩:=xf
 obtain ⟨gk,y1,y2,y3⟩:=xg
 obtain ⟨A,hA⟩:∃ A,f.mn - g.mx=A:=⟨_,rfl⟩
 obtain ⟨B,hB⟩:∃ B,f.mx - g.mn=B:=⟨_,rfl⟩
 have w1:IntKind.i64.wrap (f.mn - g.mx)=A:=by rw [←hA];exact wrap64 (by omega) (by omega)
 have w2:IntKind.i64.wrap (f.mx - g.mn)=B:=by rw [←hB];exact wrap64 (by omega) (by omega)
 rw [hA,hB]
 have hh:How how:=by unfold How;omega
 have k129:=fun a b h=>f129 how hh a b h
 have mk:∀ {env:Env} {X Y:AV},(get env 1=iV how∧get env 6=.ptr (h.length,0) 0∧get env 7=.ptr (h.length,1) 0∧get env 8=.ptr (h.length,2) 0∧get env 14=X∧get env 15=Y)→E83 env how h.length∧get env 14=X∧get env 15=Y:=fun ⟨a,b,c,d,e,f⟩=>⟨⟨a,b,c,d⟩,e,f⟩
 suffices ∃ env',_∧_ from let ⟨e,x,y⟩:=this;⟨e,x,mk y⟩
 have hc:∀ x,cmpI how x 0=true∨cmpI how x 0=false:=fun x=>by cases cmpI how x 0<;>simp
 rcases h3 with rfl | rfl | rfl | rfl
 ·have n0:alwB 0 A B=(cmpI 0 A 0 && cmpI 0 B 0):=by unfold alwB;rw [if_neg (by decide)]
  have n2:nevB 0 A B=decide (0 < A∨B < 0):=by unfold nevB;rw [if_pos rfl]
  rw [n0,n2]
  rcases hc A with cA | cA<;>rcases hc B with cB' | cB'<;>by_cases d:0 < A <;>
   simp [p82_10,p82_11,p82_12,p82_13,p82_14,KL,lendF,g1,g6,g7,g8,e10,e11,w1,w2,k129,cA,cB',d]
 ·have n0:alwB 1 A B=decide (0 < A∨B < 0):=by unfold alwB;rw [if_pos rfl]
  have n2:nevB 1 A B=(!cmpI 1 A 0 && !cmpI 1 B 0):=by unfold nevB;rw [if_neg (by decide)]
  rw [n0,n2]
  rcases hc A with cA | cA<;>rcases hc B with cB' | cB'<;>by_cases d:0 < A <;>
   simp [p82_10,p82_11,p82_12,p82_13,p82_14,KL,lendF,g1,g6,g7,g8,e10,e11,w1,w2,k129,cA,cB',d]
 ·have n0:alwB 2 A B=(cmpI 2 A 0 && cmpI 2 B 0):=by unfold alwB;rw [if_neg (by decide)]
  have n2:nevB 2 A B=(!cmpI 2 A 0 && !cmpI 2 B 0):=by unfold nevB;rw [if_neg (by decide)]
  rw [n0,n2]
  rcases hc A with cA | cA<;>rcases hc B with cB' | cB' <;>
   simp [p82_10,p82_11,p82_12,p82_13,p82_14,KL,lendF,g1,g6,g7,g8,e10,e11,w1,w2,k129,cA,cB']
 ·have n0:alwB 3 A B=(cmpI 3 A 0 && cmpI 3 B 0):=by unfold alwB;rw [if_neg (by decide)]
  have n2:nevB 3 A B=(!cmpI 3 A 0 && !cmpI 3 B 0):=by unfold nevB;rw [if_neg (by decide)]
  rw [n0,n2]
  rcases hc A with cA | cA<;>rcases hc B with cB' | cB' <;>
   simp [p82_10,p82_11,p82_12,p82_13,p82_14,KL,lendF,g1,g6,g7,g8,e10,e11,w1,w2,k129,cA,cB']
theorem p82_f (a b:Nd) (e f g:Pol.Fd) (how:Int) (x y:Bool) (env:Env) (he:E83 env how h.length) (e14:get env 14=.bool x) (e15:get env 15=.bool y) :
  goF c82.res (evC K (mu K) (.seq p82_15 (.seq p82_16 p82_17)) ⟨env,F83 a b e f g :: h⟩)=some (.val (rcAV (if x=true∨y=true then cB x else relC how a b)) h):=by
 obtain ⟨g1,g6,g7,g8⟩:=he
 have k81:=fun b h=>f81 b h
 have k132:=fun h=>f132 how a b h
 have k133:=fun n h=>f133 n h
 have qa:=beq_avS _ beq_iV a.kids
 have qb:=beq_avS _ beq_iV b.kids
 cases x<;>cases y<;>simp [p82_15,p82_16,p82_17,c82,KL,lendF,g1,g6,g7,g8,e14,e15,k81,k132,k133,qa,qb,cB,relC,rK,rN,rS,lv]
end
section
variable (p:Po) (hp:Sz p) (l:Sl Sc) (hl:okL l) (b0:Loc) (h:Heap)
include hp hl
theorem p82_c (how:Int) (hh:How how) (a b:Nd) (e:Pol.Fd) (hb:hget h b0=some (.box 105 false (mkAV p l))) (lb:b0.1 < h.length) (env:Env) (he:E82 env b0 how h.length) :
  ∃ env',evC K (mu K) (.seq p82_8 p82_9) ⟨env,(F82 a b++[.box 60 false e.av]) :: h⟩=some (.norm,⟨env',(if how=4∨how=5 then F83 b a e (fdOf p.uses.l l.l b) (fdOf p.uses.l l.l a) else F83 a b e (fdOf p.uses.l l.l a) (fdOf p.uses.l l.l b)) :: h⟩) ∧
   E83 env' (if how=4∨how=5 then mirror how else how) h.length∧get env' 10=.ptr (h.length,4) 0∧get env' 11=.ptr (h.length,5) 0:=by
 obtain ⟨g0,g1,g6,g7,g8⟩:=he
 have n1:(b0.1=h.length)=False:=eq_false (by omega)
 have qa:=beq_avS _ beq_iV a.kids
 have qb:=beq_avS _ beq_iV b.kids
 have up0:∀ F,hget (F :: h) b0=some (.box 105 false (mkAV p l)):=fun F=>by simp only [hget];rw [if_neg (by omega)];exact hb
 have ka:=fun F=>f130 p hp l hl b0 (F :: h) (up0 F) (by simp only [List.length_cons];omega) a
 have kb:=fun F=>f130 p hp l hl b0 (F :: h) (up0 F) (by simp only [List.length_cons];omega) b
 have m4:=fun h=>f128 4 (by simp [How]) h
 have m5:=fun h=>f128 5 (by simp [How]) h
 simp only [show mirror 4=2 by decide,show mirror 5=3 by decide] at m4 m5
 generalize fdOf p.uses.l l.l a=f at *
 generalize fdOf p.uses.l l.l b=g at *
 have qf:=beq_avS _ beq_strS f.words
 have qg:=beq_avS _ beq_strS g.words
 have qe:=beq_avS _ beq_strS e.words
 have mk:∀ {env:Env} {how:Int},(get env 1=iV how∧get env 6=.ptr (h.length,0) 0∧get env 7=.ptr (h.length,1) 0∧get env 8=.ptr (h.length,2) 0∧get env 10=.ptr (h.length,4) 0∧get env 11=.ptr (h.length,5) 0)→E83 env how h.length∧get env 10=.ptr (h.length,4) 0∧get env 11=.ptr (h.length,5) 0:=fun ⟨a,b,c,d,e,f⟩=>⟨⟨a,b,c,d⟩,e,f⟩
 suffices ∃ env',_∧_ from let ⟨e,x,y⟩:=this;⟨e,x,mk y⟩
 rcases hh with rfl | rfl | rfl | rfl | rfl | rfl
 all_goals simp [p82_8,p82_9,KL,lendF,ka,kb,g0,g1,g6,g7,g8,n1,qa,qb,qf,qg,qe,m4,m5,mirror]
theorem f82 (hr:readyE p l.l=0) (how:Int) (hh:How how) (a b:Nd) (ha:Nm32 a) (hb32:Nm32 b) (hb:hget h b0=some (.box 105 false (mkAV p l))) (lb:b0.1 < h.length) :
  (mu K).fn 82 [.ptr b0 0,iV how,a.av,b.av] h=some (.val (rcAV (rvalues (fdOf p.uses.l l.l) how a b)) h):=by
 obtain ⟨env,k,he⟩:=p82_a b0 h how hh a b lb
 have main:∀ (how:Int) (hh:How how) (a b:Nd),Nm32 b→∀ env,E82 env b0 how h.length →
   goF c82.res (evC K (mu K) (.seq p82_2 (.seq p82_3 (.seq p82_4 (.seq p82_5 (.seq p82_6 (.seq p82_7 R82)))))) ⟨env,F82 a b :: h⟩)=some (.val (rcAV (rvalues1 (fdOf p.uses.l l.l) how a b)) h):=fun how hh a b hb32 env he=>by
  by_cases hlate:late (fdOf p.uses.l l.l) a b
  case neg=>exact p82_e p hp l hl b0 h how hh a b hb32 hb lb env he hlate
  obtain ⟨env1,k1,he1⟩:=p82_l p hp l hl b0 h how a b hb lb env he hlate
  obtain ⟨env2,k2,he2,e10,e11⟩:=p82_c p hp l hl b0 h how hh a b (fdOf p.uses.l l.l a) hb lb env1 he1
  have xs:=fun n=>fdx_fd (p:=p) (ready_of hr).sch n
  have hassoc:evC K (mu K) (.seq p82_2 (.seq p82_3 (.seq p82_4 (.seq p82_5 (.seq p82_6 (.seq p82_7 R82)))))) ⟨env,F82 a b :: h⟩ =
    goS K (mu K) R82 (evC K (mu K) (.seq p82_2 (.seq p82_3 (.seq p82_4 (.seq p82_5 (.seq p82_6 p82_7))))) ⟨env,F82 a b :: h⟩):=by
   simp only [c_seq]
   generalize evC K (mu K) p82_2 ⟨env,F82 a b :: h⟩=s0
   simp only [go_assoc]
  have hassoc2:evC K (mu K) R82 ⟨env1,(F82 a b++[.box 60 false (fdOf p.uses.l l.l a).av]) :: h⟩ =
    goS K (mu K) (.seq (.seq p82_10 (.seq p82_11 (.seq p82_12 (.seq p82_13 p82_14)))) (.seq p82_15 (.seq p82_16 p82_17))) (evC K (mu K) (.seq p82_8 p82_9) ⟨env1,(F82 a b++[.box 60 false (fdOf p.uses.l l.l a).av]) :: h⟩):=by
   simp only [R82,c_seq]
   generalize evC K (mu K) p82_8 ⟨env1,(F82 a b++[.box 60 false (fdOf p.uses.l l.l a).av]) :: h⟩=s0
   simp only [go_assoc]
  have tail:∀ (how:Int) (a b:Nd) (e:Pol.Fd),(how=0∨how=1∨how=2∨how=3)→E83 env2 how h.length →
    goF c82.res (goS K (mu K) (.seq (.seq p82_10 (.seq p82_11 (.seq p82_12 (.seq p82_13 p82_14)))) (.seq p82_15 (.seq p82_16 p82_17))) (some (.norm,⟨env2,F83 a b e (fdOf p.uses.l l.l a) (fdOf p.uses.l l.l b) :: h⟩)))=some (.val (rcAV (rnums (fdOf p.uses.l l.l) how a b)) h):=fun how a b e h3 he2=>by
   obtain ⟨env3,k3,he3,x14,x15⟩:=p82_d h a b e _ _ (xs a) (xs b) how h3 env2 he2 e10 e11
   rw [goS_norm,c_seq,k3,goS_norm,p82_f h a b e _ _ how _ _ env3 he3 x14 x15]
   rfl
  rw [hassoc,k1,goS_norm,hassoc2,k2]
  obtain ⟨c1,c2,c3,c4,c5⟩:=hlate
  unfold rvalues1
  rw [if_neg c1,if_neg c2,if_neg c3,if_neg c4,if_neg c5]
  unfold rnumbers
  by_cases c:how=4∨how=5
  ·rw [if_pos c] at he2 ⊢
   rw [if_pos c]
   refine tail (mirror how) b a _ ?_ he2
   rcases c with rfl | rfl<;>simp [mirror]
  ·rw [if_neg c] at he2 ⊢
   rw [if_neg c]
   refine tail how a b _ ?_ he2
   unfold How at hh
   omega
 rw [fn_go (KX _ _ _) fn82 p82_body (by simp [c82])]
 have hassoc:evC K (mu K) (.seq p82_0 (.seq p82_1 (.seq p82_2 (.seq p82_3 (.seq p82_4 (.seq p82_5 (.seq p82_6 (.seq p82_7 R82)))))))) ⟨envOf 0 [.ptr b0 0,iV how,a.av,b.av],[] :: h⟩ =
   goS K (mu K) (.seq p82_2 (.seq p82_3 (.seq p82_4 (.seq p82_5 (.seq p82_6 (.seq p82_7 R82)))))) (evC K (mu K) (.seq p82_0 p82_1) ⟨envOf 0 [.ptr b0 0,iV how,a.av,b.av],[] :: h⟩):=by
  simp only [c_seq]
  generalize evC K (mu K) p82_0 ⟨envOf 0 [.ptr b0 0,iV how,a.av,b.av],[] :: h⟩=s0
  simp only [go_assoc]
 show goF c82.res (evC K (mu K) (.seq p82_0 (.seq p82_1 (.seq p82_2 (.seq p82_3 (.seq p82_4 (.seq p82_5 (.seq p82_6 (.seq p82_7 R82)))))))) ⟨envOf 0 [.ptr b0 0,iV how,a.av,b.av],[] :: h⟩)=_
 rw [hassoc,k,goS_norm]
 unfold rvalues
 by_cases c:a.k≠9∧b.k=9
 ·rw [if_pos c] at he ⊢
  rw [if_pos c]
  exact main _ (how_mirror hh) b a ha env he
 ·rw [if_neg c] at he ⊢
  rw [if_neg c]
  exact main _ hh a b hb32 env he
end
end Go.Ab.Pz
