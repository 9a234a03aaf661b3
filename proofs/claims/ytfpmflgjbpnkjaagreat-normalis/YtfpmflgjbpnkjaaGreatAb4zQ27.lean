/-
  The reference's normal form of a condition: the cases.
-/
import Derived.Test.YtfpmflgjbpnkjaaGreatAb4zQ25
import Derived.Test.YtfpmflgjbpnkjaaGreatAb4zQ26
set_option linter.unusedVariables false
set_option linter.unusedSimpArgs false
set_option linter.unusedSectionVars false
namespace Go.Ab.Pz
open Go.Ab.Pol
set_option maxRecDepth 100000
set_option maxHeartbeats 4000000
theorem p52_body:c52.body=.code (.seq p52_0 (.seq p52_1 (.seq p52_2 (.seq p52_3 (.seq p52_4 (.seq p52_5 (.seq p52_6 (.seq p52_7 (.seq p52_8 (.seq p52_9 p52_10)))))))))):=rfl
structure E52 (env:Env) (b0:Loc) (neg:Bool) (n m:Nat):Prop where
 g0:get env 0=.ptr b0 0
 g2:get env 2=.bool neg
 g6:get env 6=.ptr (n,0) 0
 g7:get env 7=.ptr (n,1) 0
 g8:get env 8=.own (n,2) m
abbrev F52 (n:Nd) (B:Blk):List Blk:=[.box 109 false zr7,.box 63 false n.av,B]
theorem ret52 (env:Env) (c:Cd) (F:List Blk) (h:Heap) (e:get env 6=.ptr (h.length,0) 0):goF c52.res (some (.ret,⟨env,(.box 109 false (rcAV c) :: F) :: h⟩))=some (.val (rcAV c) h):=by
 have qc:=beq_rS c
 simp [c52,e,qc]
section
variable (p:Po) (l:Sl Sc) (neg:Bool) (b0:Loc) (h:Heap) (hb:hget h b0=some (.box 105 false (mkAV p l))) (lb:b0.1 < h.length)
include hb lb
theorem p52_a (i:Nat) (n:Nd) (hn:p.nodes.l[i]?=some n) :
  ∃ env,evC K (mu K) (.seq p52_0 (.seq p52_1 p52_2)) ⟨envOf 0 [.ptr b0 0,iV (i:Int),.bool neg],[] :: h⟩=some (.norm,⟨env,F52 n (.arr 0 0 false []) :: h⟩)∧E52 env b0 neg h.length 0:=by
 have hix:=fun (k:IntKind)=>iaF_sl (av:=Nd.av) (sz:=6) (s:=p.nodes) (k:=k) (j:=(i:Int)) (x:=n) (by omega) (by simpa using hn) rfl
 have qn:=beq_avS _ beq_iV n.kids
 have n1:(b0.1=h.length)=False:=eq_false (by omega)
 have mk:∀ {env:Env},(get env 0=.ptr b0 0∧get env 2=.bool neg∧get env 6=.ptr (h.length,0) 0∧get env 7=.ptr (h.length,1) 0∧get env 8=.own (h.length,2) 0)→E52 env b0 neg h.length 0:=fun ⟨a,b,c,d,e⟩=>⟨a,b,c,d,e⟩
 suffices ∃ env',_∧_ from let ⟨e,x,y⟩:=this;⟨e,x,mk y⟩
 simp only [mkAV,Po.cs,List.cons_append,List.nil_append] at hb
 simp [p52_0,p52_1,p52_2,KL,lendF,hb,n1,hix,qn]
omit hb lb
theorem p52_01 (n:Nd) (B:Blk) (env:Env) (m:Nat) (he:E52 env b0 neg h.length m) (hk:n.k=0∨n.k=1) :
  ∃ env' F',evC K (mu K) p52_3 ⟨env,F52 n B :: h⟩=some (.ret,⟨env',(.box 109 false (rcAV (cB (decide (n.k=0) != neg))) :: F') :: h⟩)∧get env' 6=.ptr (h.length,0) 0:=by
 obtain ⟨g0,g2,g6,g7,g8⟩:=he
 have k81:=fun b h=>f81 b h
 rcases hk with hk | hk
 ·have d:(n.k=0)=True:=by simp [hk]
  cases neg<;>simp [p52_3,KL,lendF,g2,g6,g7,d,k81,beq_rS]
 ·have d:(n.k=0)=False:=by simp [hk]
  have d1:(n.k=1)=True:=by simp [hk]
  cases neg<;>simp [p52_3,KL,lendF,g2,g6,g7,d,d1,k81,beq_rS]
theorem p52_k2 (n:Nd) (B:Blk) (env:Env) (m:Nat) (he:E52 env b0 neg h.length m) (hk:n.k=2) (x:Nat) (hx:n.kids.l[0]?=some (x:Int)) (c:Cd)
  (k52:∀ B,(mu K).fn 52 [.ptr b0 0,iV (x:Int),.bool (!neg)] (F52 n B :: h)=some (.val (rcAV c) (F52 n B :: h))) :
  ∃ env' F',evC K (mu K) p52_3 ⟨env,F52 n B :: h⟩=some (.ret,⟨env',(.box 109 false (rcAV c) :: F') :: h⟩)∧get env' 6=.ptr (h.length,0) 0:=by
 obtain ⟨g0,g2,g6,g7,g8⟩:=he
 have hix:=fun (k:IntKind)=>iaF_sl (av:=iV) (sz:=1) (s:=n.kids) (k:=k) (j:=0) (x:=(x:Int)) (by omega) (by simpa using hx) rfl
 have d0:(n.k=0)=False:=by simp [hk]
 have d1:(n.k=1)=False:=by simp [hk]
 have d2:(n.k=2)=True:=by simp [hk]
 have qc:=beq_rS c
 simp [p52_3,KL,lendF,g0,g2,g6,g7,d0,d1,d2,hix,k52,qc]
include hb lb
theorem p52_k6 (n:Nd) (B:Blk) (env:Env) (m:Nat) (he:E52 env b0 neg h.length m) (hk:n.k=6) (hh:How n.num) (x y:Nat) (a b:Nd) (hx:n.kids.l[0]?=some (x:Int)) (hy:n.kids.l[1]?=some (y:Int)) (ha:p.nodes.l[x]?=some a) (hb':p.nodes.l[y]?=some b) (c:Cd)
  (k82:∀ B,(mu K).fn 82 [.ptr b0 0,iV (sg neg n.num),a.av,b.av] (F52 n B :: h)=some (.val (rcAV c) (F52 n B :: h))) :
  ∃ env' F',evC K (mu K) p52_3 ⟨env,F52 n B :: h⟩=some (.ret,⟨env',(.box 109 false (rcAV c) :: F') :: h⟩)∧get env' 6=.ptr (h.length,0) 0:=by
 obtain ⟨g0,g2,g6,g7,g8⟩:=he
 have up:∀ F,hget (F :: h) b0=some (.box 105 false (mkAV p l)):=fun F=>by simp only [hget];rw [if_neg (by omega)];exact hb
 have ka:=fun F=>f84 p l b0 (F :: h) (up F) (by simp only [List.length_cons];omega) n 0 (by omega) x a (by simpa using hx) ha
 have kb:=fun F=>f84 p l b0 (F :: h) (up F) (by simp only [List.length_cons];omega) n 1 (by omega) y b (by simpa using hy) hb'
 have k83:=fun h=>f83 n.num hh neg h
 have qn:=beq_avS _ beq_iV n.kids
 have qa:=beq_avS _ beq_iV a.kids
 have qb:=beq_avS _ beq_iV b.kids
 have d0:(n.k=0)=False:=by simp [hk]
 have d1:(n.k=1)=False:=by simp [hk]
 have d2:(n.k=2)=False:=by simp [hk]
 have d6:(n.k=6)=True:=by simp [hk]
 have qc:=beq_rS c
 generalize sg neg n.num=S at *
 simp [p52_3,KL,lendF,g0,g2,g6,g7,d0,d1,d2,d6,ka,kb,k83,k82,qn,qa,qb,qc]
theorem p52_k7t (n:Nd) (B:Blk) (env:Env) (m:Nat) (he:E52 env b0 neg h.length m) (hk:n.k=7) (hneg:neg=false) (x y z:Nat) (a b c:Nd) (hx:n.kids.l=[(x:Int),(y:Int),(z:Int)]) (ha:p.nodes.l[x]?=some a) (hb':p.nodes.l[y]?=some b) (hc:p.nodes.l[z]?=some c)
  (qk:a.k=9∧b.k=10∧c.k=10) (w:Cd) (k85:∀ B,(mu K).fn 85 [.ptr b0 0,a.av,iV b.num,iV c.num] (F52 n B :: h)=some (.val (rcAV w) (F52 n B :: h))) :
  ∃ env' F',evC K (mu K) p52_3 ⟨env,F52 n B :: h⟩=some (.ret,⟨env',(.box 109 false (rcAV w) :: F') :: h⟩)∧get env' 6=.ptr (h.length,0) 0:=by
 obtain ⟨g0,g2,g6,g7,g8⟩:=he
 subst hneg
 obtain ⟨ka9,kb10,kc10⟩:=qk
 have up:∀ F,hget (F :: h) b0=some (.box 105 false (mkAV p l)):=fun F=>by simp only [hget];rw [if_neg (by omega)];exact hb
 have ka:=fun F=>f84 p l b0 (F :: h) (up F) (by simp only [List.length_cons];omega) n 0 (by omega) x a (by rw [hx];rfl) ha
 have kb:=fun F=>f84 p l b0 (F :: h) (up F) (by simp only [List.length_cons];omega) n 1 (by omega) y b (by rw [hx];rfl) hb'
 have kc:=fun F=>f84 p l b0 (F :: h) (up F) (by simp only [List.length_cons];omega) n 2 (by omega) z c (by rw [hx];rfl) hc
 have qn:=beq_avS _ beq_iV n.kids
 have qa:=beq_avS _ beq_iV a.kids
 have qb:=beq_avS _ beq_iV b.kids
 have qc:=beq_avS _ beq_iV c.kids
 have d0:(n.k=0)=False:=by simp [hk]
 have d1:(n.k=1)=False:=by simp [hk]
 have d2:(n.k=2)=False:=by simp [hk]
 have d6:(n.k=6)=False:=by simp [hk]
 have d7:(n.k=7)=True:=by simp [hk]
 have a9:(a.k=9)=True:=eq_true ka9
 have b10:(b.k=10)=True:=eq_true kb10
 have c10:(c.k=10)=True:=eq_true kc10
 have qw:=beq_rS w
 simp [p52_3,KL,lendF,g0,g2,g6,g7,d0,d1,d2,d6,d7,ka,kb,kc,a9,b10,c10,k85,qn,qa,qb,qc,qw]
theorem p52_k7f (n:Nd) (env:Env) (he:E52 env b0 neg h.length 0) (hk:n.k=7) (x y z:Nat) (a b c:Nd) (hx:n.kids.l=[(x:Int),(y:Int),(z:Int)]) (ha:p.nodes.l[x]?=some a) (hb':p.nodes.l[y]?=some b) (hc:p.nodes.l[z]?=some c)
  (hno:¬ (neg=false∧a.k=9∧b.k=10∧c.k=10)) (u v w:Cd)
  (k82:∀ B,(mu K).fn 82 [.ptr b0 0,iV (sg neg 5),a.av,b.av] (F52 n B :: h)=some (.val (rcAV u) (F52 n B :: h)))
  (k82':∀ B,(mu K).fn 82 [.ptr b0 0,iV (sg neg 3),a.av,c.av] (F52 n B :: h)=some (.val (rcAV v) (F52 n B :: h)))
  (k86:∀ B,(mu K).fn 86 [iV (if neg=true then 1 else 2),.lst [rcAV u,rcAV v]] (F52 n B :: h)=some (.val (rcAV w) (F52 n B :: h))) :
  ∃ env' F',evC K (mu K) p52_3 ⟨env,F52 n (.arr 0 0 false []) :: h⟩=some (.ret,⟨env',(.box 109 false (rcAV w) :: F') :: h⟩)∧get env' 6=.ptr (h.length,0) 0:=by
 obtain ⟨g0,g2,g6,g7,g8⟩:=he
 have up:∀ F,hget (F :: h) b0=some (.box 105 false (mkAV p l)):=fun F=>by simp only [hget];rw [if_neg (by omega)];exact hb
 have ka:=fun F=>f84 p l b0 (F :: h) (up F) (by simp only [List.length_cons];omega) n 0 (by omega) x a (by rw [hx];rfl) ha
 have kb:=fun F=>f84 p l b0 (F :: h) (up F) (by simp only [List.length_cons];omega) n 1 (by omega) y b (by rw [hx];rfl) hb'
 have kc:=fun F=>f84 p l b0 (F :: h) (up F) (by simp only [List.length_cons];omega) n 2 (by omega) z c (by rw [hx];rfl) hc
 have k83:=fun h=>f83 5 (by simp [How]) neg h
 have k83':=fun h=>f83 3 (by simp [How]) neg h
 have qn:=beq_avS _ beq_iV n.kids
 have qa:=beq_avS _ beq_iV a.kids
 have qb:=beq_avS _ beq_iV b.kids
 have qc:=beq_avS _ beq_iV c.kids
 have d0:(n.k=0)=False:=by simp [hk]
 have d1:(n.k=1)=False:=by simp [hk]
 have d2:(n.k=2)=False:=by simp [hk]
 have d6:(n.k=6)=False:=by simp [hk]
 have d7:(n.k=7)=True:=by simp [hk]
 have qw:=beq_rS w
 have qu:=beq_rS u
 have qv:=beq_rS v
 have rm1:208≤room:=by unfold room;omega
 have rm2:2≤room:=by unfold room;omega
 generalize sg neg 5=S at *
 generalize sg neg 3=S' at *
 cases neg
 ·simp only [Bool.false_eq_true,if_false] at k86
  by_cases a9:a.k=9
  ·have a9:(a.k=9)=True:=eq_true a9
   by_cases b10:b.k=10
   ·have c10:(c.k=10)=False:=eq_false (fun q=>hno ⟨rfl,of_eq_true a9,b10,q⟩)
    have b10:(b.k=10)=True:=eq_true b10
    simp [p52_3,KL,lendF,g0,g2,g6,g7,g8,d0,d1,d2,d6,d7,ka,kb,kc,k83,k83',a9,b10,c10,k82,k82',k86,qn,qa,qb,qc,qu,qv,qw,rm1,rm2]
   ·simp [p52_3,KL,lendF,g0,g2,g6,g7,g8,d0,d1,d2,d6,d7,ka,kb,kc,k83,k83',a9,b10,k82,k82',k86,qn,qa,qb,qc,qu,qv,qw,rm1,rm2]
  ·simp [p52_3,KL,lendF,g0,g2,g6,g7,g8,d0,d1,d2,d6,d7,ka,kb,kc,k83,k83',a9,k82,k82',k86,qn,qa,qb,qc,qu,qv,qw,rm1,rm2]
 ·simp only [if_true] at k86
  simp [p52_3,KL,lendF,g0,g2,g6,g7,g8,d0,d1,d2,d6,d7,ka,kb,kc,k83,k83',k82,k82',k86,qn,qa,qb,qc,qu,qv,qw,rm1,rm2]
theorem l52_0_ok (n:Nd) (hn:n.kids.l.length≤1000) (hn1:1≤n.kids.l.length) (x0:Nat) (a:Nd) (h0:n.kids.l[0]?=some (x0:Int)) (ha:p.nodes.l[x0]?=some a)
  (hall:∀ x∈n.kids.l,∃ (j:Nat) (b:Nd),x=(j:Int)∧p.nodes.l[j]?=some b) (V:Int→Cd)
  (k82:∀ (j:Nat) (b:Nd) (B:Blk),(j:Int)∈n.kids.l.drop 1→p.nodes.l[j]?=some b→(mu K).fn 82 [.ptr b0 0,iV (sg neg 0),a.av,b.av] (F52 n B :: h)=some (.val (rcAV (V (j:Int))) (F52 n B :: h))) :
  ∃ env,(mu K).code (.loopAt 3 [0,2,6,7,8,9] l52_0) ⟨[(0,.ptr b0 0),(2,.bool neg),(6,.ptr (h.length,0) 0),(7,.ptr (h.length,1) 0),(8,.own (h.length,2) 0),(9,iV 1)],F52 n (.arr 0 0 false []) :: h⟩ =
   some (.exit 1,⟨env,F52 n (rcB ((n.kids.l.drop 1).map V)) :: h⟩)∧get env 2=.bool neg∧get env 6=.ptr (h.length,0) 0∧get env 8=.own (h.length,2) ((n.kids.l.drop 1).map V).length:=by
 have hdl:(n.kids.l.drop 1).length=n.kids.l.length - 1:=by simp
 have up:∀ F,hget (F :: h) b0=some (.box 105 false (mkAV p l)):=fun F=>by simp only [hget];rw [if_neg (by omega)];exact hb
 have ka:=fun F=>f84 p l b0 (F :: h) (up F) (by simp only [List.length_cons];omega) n 0 (by omega) x0 a (by simpa using h0) ha
 have k83:=fun h=>f83 0 (by simp [How]) neg h
 have qn:=beq_avS _ beq_iV n.kids
 have qa:=beq_avS _ beq_iV a.kids
 have key:=loop_iter (K:=K) (n:=3) (live:=[0,2,6,7,8,9]) (a:=l52_0) (ρ:=Unit) (fun (b:List Cd) (x:Int)=>.inl (b++[V x]))
  (fun pre b=>⟨[(0,.ptr b0 0),(2,.bool neg),(6,.ptr (h.length,0) 0),(7,.ptr (h.length,1) 0),(8,.own (h.length,2) b.length),(9,iV ((pre.length:Int)+1))],F52 n (rcB b) :: h⟩)
  (fun pre b=>b.length=pre.length)
  (fun b o=>∃ env,o=some (.exit 1,⟨env,F52 n (rcB b) :: h⟩)∧get env 2=.bool neg∧get env 6=.ptr (h.length,0) 0∧get env 8=.own (h.length,2) b.length)
  (fun _ _=>False) (n.kids.l.drop 1)
  (fun pre x r b hl' hb2=>by
   have hp:pre.length < (n.kids.l.drop 1).length:=by rw [hl'];simp
   have h1:((pre.length:Int)+1 < (n.kids.l.length:Int))=True:=by simp;omega
   have h2:n.kids.l[pre.length+1]?=some x:=by
    have:(n.kids.l.drop 1)[pre.length]?=some x:=by rw [hl'];simp
    rw [List.getElem?_drop] at this
    rwa [Nat.add_comm] at this
   have w1:IntKind.i64.wrap ((pre.length:Int)+1+1)=(pre.length:Int)+1+1:=wrap64 (by omega) (by omega)
   have hmx:x∈n.kids.l.drop 1:=by rw [hl'];simp
   obtain ⟨j,nb,rfl,hj⟩:=hall x (List.mem_of_getElem? h2)
   have k:=fun B=>k82 j nb B hmx hj
   have kb:=fun F=>f84 p l b0 (F :: h) (up F) (by simp only [List.length_cons];omega) n ((pre.length:Int)+1) (by omega) j nb (by rw [show ((pre.length:Int)+1).toNat=pre.length+1 by omega];exact h2) hj
   have qb:=beq_avS _ beq_iV nb.kids
   have qv:=beq_rS (V (j:Int))
   have r1:(b.length+1) * 104≤room:=by unfold room;omega
   have r2:b.length+1≤room:=by unfold room;omega
   obtain ⟨t0,z0,hcB,hz⟩:=rcB_form b
   have hz:(z0=0∨t0=109∧z0=7)=True:=by simp [hz]
   have hlb:(b.map rcAV).length=b.length:=by simp
   rw [hb2] at r1 r2 hlb
   refine ⟨fun b' e=>?_,fun _ e=>by cases e⟩
   injection e with e
   subst e
   refine ⟨by simp [hb2],?_⟩
   rw [loop_go]
   generalize (mu K).code (.loopAt 3 [0,2,6,7,8,9] l52_0)=FF
   simp only [rcB_app]
   rw [hcB]
   clear hl'
   generalize sg neg 0=S at *
   simp [l52_0,KL,lendF,h1,w1,ka,kb,k83,k,r1,r2,hz,hlb,hb2,qn,qa,qb,qv])
  (fun b hb=>by
   have h1:((((n.kids.l.drop 1).length:Nat):Int)+1 < (n.kids.l.length:Int))=False:=by rw [hdl];simp;omega
   rw [loop_go]
   generalize (mu K).code (.loopAt 3 [0,2,6,7,8,9] l52_0)=FF
   generalize (n.kids.l.drop 1).length=D at *
   simp [l52_0,h1]) [] rfl
 have e:∀ (l:List Int) (b:List Cd),iter (fun (b:List Cd) (x:Int)=>(.inl (b++[V x]):List Cd ⊕ Unit)) b l=.inl (b++l.map V):=fun l=>by
  induction l with
  | nil=>intro b;simp [iter]
  | cons c l ih=>intro b;simp [iter,ih]
 rw [e] at key
 simpa [rcB] using key.2
theorem p52_k8 (n:Nd) (env:Env) (he:E52 env b0 neg h.length 0) (hk:n.k=8) (hn:n.kids.l.length≤1000) (hn1:1≤n.kids.l.length) (x0:Nat) (a:Nd) (h0:n.kids.l[0]?=some (x0:Int)) (ha:p.nodes.l[x0]?=some a)
  (hall:∀ x∈n.kids.l,∃ (j:Nat) (b:Nd),x=(j:Int)∧p.nodes.l[j]?=some b) (V:Int→Cd) (w:Cd)
  (k82:∀ (j:Nat) (b:Nd) (B:Blk),(j:Int)∈n.kids.l.drop 1→p.nodes.l[j]?=some b→(mu K).fn 82 [.ptr b0 0,iV (sg neg 0),a.av,b.av] (F52 n B :: h)=some (.val (rcAV (V (j:Int))) (F52 n B :: h)))
  (k86:∀ B,(mu K).fn 86 [iV (if neg=true then (((n.kids.l.drop 1).map V).length:Int) else 1),.lst (((n.kids.l.drop 1).map V).map rcAV)] (F52 n B :: h)=some (.val (rcAV w) (F52 n B :: h))) :
  ∃ env' F',evC K (mu K) p52_3 ⟨env,F52 n (.arr 0 0 false []) :: h⟩=some (.ret,⟨env',(.box 109 false (rcAV w) :: F') :: h⟩)∧get env' 6=.ptr (h.length,0) 0:=by
 obtain ⟨g0,g2,g6,g7,g8⟩:=he
 have d0:(n.k=0)=False:=by simp [hk]
 have d1:(n.k=1)=False:=by simp [hk]
 have d2:(n.k=2)=False:=by simp [hk]
 have d6:(n.k=6)=False:=by simp [hk]
 have d7:(n.k=7)=False:=by simp [hk]
 have d8:(n.k=8)=True:=by simp [hk]
 obtain ⟨env2,k,a2,a6,a8⟩:=l52_0_ok p l neg b0 h hb lb n hn hn1 x0 a h0 ha hall V k82
 obtain ⟨t0,z0,hcB,hz⟩:=rcB_form ((n.kids.l.drop 1).map V)
 rw [hcB] at k
 have hlb:(((n.kids.l.drop 1).map V).map rcAV).length=((n.kids.l.drop 1).map V).length:=by simp
 generalize (n.kids.l.drop 1).map V=Q at *
 generalize Q.map rcAV=M at *
 have qw:=beq_rS w
 cases neg
 ·simp only [Bool.false_eq_true,if_false] at k86
  simp [p52_3,KL,lendF,g0,g2,g6,g7,g8,d0,d1,d2,d6,d7,d8,k,a2,a6,a8,hlb,k86,qw]
 ·simp only [if_true] at k86
  simp [p52_3,KL,lendF,g0,g2,g6,g7,g8,d0,d1,d2,d6,d7,d8,k,a2,a6,a8,hlb,k86,qw]
omit hb lb
theorem l52_1_ok (n:Nd) (ks:List Tr) (hks:n.kids.l=ks.map fun k=>(k.i:Int)) (hn:ks.length≤1000) (V:Tr→Cd)
  (k52:∀ k∈ks,∀ B,(mu K).fn 52 [.ptr b0 0,iV (k.i:Int),.bool neg] (F52 n B :: h)=some (.val (rcAV (V k)) (F52 n B :: h))) :
  ∃ env,(mu K).code (.loopAt 3 [0,2,6,7,8,10] l52_1) ⟨[(0,.ptr b0 0),(2,.bool neg),(6,.ptr (h.length,0) 0),(7,.ptr (h.length,1) 0),(8,.own (h.length,2) 0),(10,iV 0)],F52 n (.arr 0 0 false []) :: h⟩ =
   some (.exit 3,⟨env,F52 n (rcB (ks.map V)) :: h⟩)∧get env 2=.bool neg∧get env 6=.ptr (h.length,0) 0∧get env 7=.ptr (h.length,1) 0∧get env 8=.own (h.length,2) (ks.map V).length:=by
 have hkl:n.kids.l.length=ks.length:=by rw [hks];simp
 have key:=loop_iter (K:=K) (n:=3) (live:=[0,2,6,7,8,10]) (a:=l52_1) (ρ:=Unit) (fun (b:List Cd) (x:Tr)=>.inl (b++[V x]))
  (fun pre b=>⟨[(0,.ptr b0 0),(2,.bool neg),(6,.ptr (h.length,0) 0),(7,.ptr (h.length,1) 0),(8,.own (h.length,2) b.length),(10,iV (pre.length:Int))],F52 n (rcB b) :: h⟩)
  (fun pre b=>b.length=pre.length)
  (fun b o=>∃ env,o=some (.exit 3,⟨env,F52 n (rcB b) :: h⟩)∧get env 2=.bool neg∧get env 6=.ptr (h.length,0) 0∧get env 7=.ptr (h.length,1) 0∧get env 8=.own (h.length,2) b.length)
  (fun _ _=>False) ks
  (fun pre x r b hl' hb=>by
   obtain ⟨h1,h2,w1⟩:=idx_facts hl' (by omega)
   have hp:pre.length < ks.length:=(List.getElem?_eq_some_iff.1 h2).1
   have g2:n.kids.l[pre.length]?=some (x.i:Int):=by rw [hks,List.getElem?_map,h2];rfl
   have hix:=fun (k:IntKind)=>iaF_sl (av:=iV) (sz:=1) (s:=n.kids) (k:=k) (j:=(pre.length:Int)) (x:=(x.i:Int)) (by omega) (by simpa using g2) rfl
   have h1':((pre.length:Int) < (n.kids.l.length:Int))=True:=by rw [hkl];simp;omega
   have k:=k52 x (List.mem_of_getElem? h2)
   have qv:=beq_rS (V x)
   have r1:(b.length+1) * 104≤room:=by unfold room;omega
   have r2:b.length+1≤room:=by unfold room;omega
   obtain ⟨t0,z0,hcB,hz⟩:=rcB_form b
   have hz:(z0=0∨t0=109∧z0=7)=True:=by simp [hz]
   have hlb:(b.map rcAV).length=b.length:=by simp
   rw [hb] at r1 r2 hlb
   refine ⟨fun b' e=>?_,fun _ e=>by cases e⟩
   injection e with e
   subst e
   refine ⟨by simp [hb],?_⟩
   rw [loop_go]
   generalize (mu K).code (.loopAt 3 [0,2,6,7,8,10] l52_1)=FF
   simp only [rcB_app]
   rw [hcB]
   clear hl'
   simp [l52_1,KL,lendF,h1',hix,w1,k,r1,r2,hz,hlb,hb,qv])
  (fun b hb=>by
   rw [loop_go]
   generalize (mu K).code (.loopAt 3 [0,2,6,7,8,10] l52_1)=FF
   simp [l52_1,hkl]) [] rfl
 have e:∀ (l:List Tr) (b:List Cd),iter (fun (b:List Cd) (x:Tr)=>(.inl (b++[V x]):List Cd ⊕ Unit)) b l=.inl (b++l.map V):=fun l=>by
  induction l with
  | nil=>intro b;simp [iter]
  | cons c l ih=>intro b;simp [iter,ih]
 rw [e] at key
 simpa [rcB] using key.2
theorem p52_k5 (n:Nd) (env:Env) (he:E52 env b0 neg h.length 0) (hk:n.k=3∨n.k=4∨n.k=5):∃ env',evC K (mu K) p52_3 ⟨env,F52 n (.arr 0 0 false []) :: h⟩=some (.norm,⟨env',F52 n (.arr 0 0 false []) :: h⟩)∧E52 env' b0 neg h.length 0:=by
 obtain ⟨g0,g2,g6,g7,g8⟩:=he
 have d0:(n.k=0)=False:=by simp;omega
 have d1:(n.k=1)=False:=by simp;omega
 have d2:(n.k=2)=False:=by simp;omega
 have d6:(n.k=6)=False:=by simp;omega
 have d7:(n.k=7)=False:=by simp;omega
 have d8:(n.k=8)=False:=by simp;omega
 have mk:∀ {env:Env},(get env 0=.ptr b0 0∧get env 2=.bool neg∧get env 6=.ptr (h.length,0) 0∧get env 7=.ptr (h.length,1) 0∧get env 8=.own (h.length,2) 0)→E52 env b0 neg h.length 0:=fun ⟨a,b,c,d,e⟩=>⟨a,b,c,d,e⟩
 suffices ∃ env',_∧_ from let ⟨e,x,y⟩:=this;⟨e,x,mk y⟩
 simp [p52_3,KL,lendF,g0,g2,g6,g7,g8,d0,d1,d2,d6,d7,d8]
theorem p52_gate (n:Nd) (env:Env) (he:E52 env b0 neg h.length 0) (hk:n.k=3∨n.k=4∨n.k=5) (ks:List Tr) (hks:n.kids.l=ks.map fun k=>(k.i:Int)) (hn:ks.length≤1000) (V:Tr→Cd) (w:Cd) (k0:Int) (hk0:k0=if n.k=3 then (ks.length:Int) else if n.k=4 then 1 else n.num) (b0k:0≤k0∧k0≤500000)
  (k52:∀ k∈ks,∀ B,(mu K).fn 52 [.ptr b0 0,iV (k.i:Int),.bool neg] (F52 n B :: h)=some (.val (rcAV (V k)) (F52 n B :: h)))
  (k86:∀ B,(mu K).fn 86 [iV (if neg=true then (ks.length:Int) - k0+1 else k0),.lst ((ks.map V).map rcAV)] (F52 n B :: h)=some (.val (rcAV w) (F52 n B :: h))) :
  goF c52.res (evC K (mu K) (.seq p52_4 (.seq p52_5 (.seq p52_6 (.seq p52_7 (.seq p52_8 (.seq p52_9 p52_10)))))) ⟨env,F52 n (.arr 0 0 false []) :: h⟩)=some (.val (rcAV w) h):=by
 obtain ⟨g0,g2,g6,g7,g8⟩:=he
 obtain ⟨env2,k,a2,a6,a7,a8⟩:=l52_1_ok neg b0 h n ks hks hn V k52
 obtain ⟨t0,z0,hcB,hz⟩:=rcB_form (ks.map V)
 rw [hcB] at k
 have hlb:((ks.map V).map rcAV).length=(ks.map V).length:=by simp
 have hml:(ks.map V).length=ks.length:=by simp
 have w1:IntKind.i64.wrap ((ks.length:Int) - k0)=(ks.length:Int) - k0:=wrap64 (by omega) (by omega)
 have w2:IntKind.i64.wrap ((ks.length:Int) - k0+1)=(ks.length:Int) - k0+1:=wrap64 (by omega) (by omega)
 generalize ks.map V=Q at *
 generalize Q.map rcAV=M at *
 have qw:=beq_rS w
 have go:∀ (D3:(n.k=3)=True∨(n.k=3)=False) (D4:(n.k=4)=True∨(n.k=4)=False),True:=fun _ _=>trivial
 by_cases k3:n.k=3
 ·have d3:(n.k=3)=True:=by simp [k3]
  have d4:(n.k=4)=False:=by simp [k3]
  rw [if_pos k3] at hk0
  subst hk0
  cases neg
  ·simp only [Bool.false_eq_true,if_false] at k86
   simp [p52_4,p52_5,p52_6,p52_7,p52_8,p52_9,p52_10,c52,KL,lendF,g0,g2,g6,g7,g8,d3,d4,k,a2,a6,a7,a8,hlb,hml,k86,qw,w1,w2]
  ·simp only [if_true] at k86
   simp only [Int.sub_self,Int.zero_add] at k86 w1 w2
   simp [p52_4,p52_5,p52_6,p52_7,p52_8,p52_9,p52_10,c52,KL,lendF,g0,g2,g6,g7,g8,d3,d4,k,a2,a6,a7,a8,hlb,hml,k86,qw,w1,w2]
 by_cases k4:n.k=4
 ·have d4:(n.k=4)=True:=by simp [k4]
  rw [if_neg k3,if_pos k4] at hk0
  subst hk0
  cases neg
  ·simp only [Bool.false_eq_true,if_false] at k86
   simp [p52_4,p52_5,p52_6,p52_7,p52_8,p52_9,p52_10,c52,KL,lendF,g0,g2,g6,g7,g8,k3,d4,k,a2,a6,a7,a8,hlb,hml,k86,qw,w1,w2]
  ·simp only [if_true,Int.sub_add_cancel] at k86 w2
   simp [p52_4,p52_5,p52_6,p52_7,p52_8,p52_9,p52_10,c52,KL,lendF,g0,g2,g6,g7,g8,k3,d4,k,a2,a6,a7,a8,hlb,hml,k86,qw,w1,w2]
 ·rw [if_neg k3,if_neg k4] at hk0
  subst hk0
  cases neg
  ·simp only [Bool.false_eq_true,if_false] at k86
   simp [p52_4,p52_5,p52_6,p52_7,p52_8,p52_9,p52_10,c52,KL,lendF,g0,g2,g6,g7,g8,k3,k4,k,a2,a6,a7,a8,hlb,hml,k86,qw,w1,w2]
  ·simp only [if_true] at k86
   simp [p52_4,p52_5,p52_6,p52_7,p52_8,p52_9,p52_10,c52,KL,lendF,g0,g2,g6,g7,g8,k3,k4,k,a2,a6,a7,a8,hlb,hml,k86,qw,w1,w2]
end
end Go.Ab.Pz
