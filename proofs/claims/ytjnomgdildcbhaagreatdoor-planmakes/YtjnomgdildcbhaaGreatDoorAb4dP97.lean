/-
  The reference's normal form of a condition: the cases.
-/
import Derived.Test.YtjnomgdildcbhaaGreatDoorAb4dQ26
import Derived.Test.YtjnomgdildcbhaaGreatDoorAb4dQ24
set_option linter.all false
set_option maxRecDepth 100000
set_option maxHeartbeats 4000000
namespace Go.Ab.Pn
open Go.Ab.Pol
theorem Pp:c93.body=.code (.seq BG (.seq D8 (.seq D9 (.seq fN (.seq qm (.seq qo (.seq qp (.seq qq (.seq qB (.seq qC kG)))))))))):=rfl
structure E52 (j3:Env)(b0:Loc)(neg:Bool)(n m:Nat):Prop where
 g0:get j3 0=.ptr b0 0
 g2:get j3 2=.bool neg
 g6:get j3 6=.ptr (n,0) 0
 g7:get j3 7=.ptr (n,1) 0
 g8:get j3 8=.own (n,2) m
abbrev F52(n:Nd)(B:Blk):List Blk:=[.box 185 false zr7,.box 90 false n.av,B]
theorem abc(j3:Env)(c:Cd)(F:List Blk)(h:Heap)(e:get j3 6=.ptr (h.length,0) 0):goF c93.res (some (.ret,⟨j3,(.box 185 false (bB c)::F)::h⟩))=some (.val (bB c) h):=by
 have qc:=fX c;simp[c93,e]
section
variable(p:Po)(l:Sl Sc)(neg:Bool)(b0:Loc)(h:Heap)(hb:hget h b0=some (.box 181 false (bK p l)))(lb:b0.1<h.length)
include hb lb
theorem abb(i:Nat)(n:Nd)(hn:p.nodes.l[i]?=some n) :
  ∃j3,evC K (mu K) (.seq BG (.seq D8 D9)) ⟨cI 0 [.ptr b0 0,iV (i:Int),.bool neg],[]::h⟩=some (.norm,⟨j3,F52 n (.arr 0 0 false [])::h⟩)∧E52 j3 b0 neg h.length 0:=by
 have hix:=iaP Nd.av 6 p.nodes i n (by simpa using hn);have qn:=ak _ aP n.kids;have n1:(b0.1=h.length)=False:=eq_false (by omega);have mk:∀{j3:Env},(get j3 0=.ptr b0 0∧get j3 2=.bool neg∧get j3 6=.ptr (h.length,0) 0∧get j3 7=.ptr (h.length,1) 0∧get j3 8=.own (h.length,2) 0)->E52 j3 b0 neg h.length 0:=λ⟨a,b,c,d,e⟩=>⟨a,b,c,d,e⟩
 suffices ∃j3',_∧_ from let ⟨e,x,y⟩:=this;⟨e,x,mk y⟩
 simp only[bK,Po.cs,afo,afq]at hb;simp[BG,D8,D9,hb,n1,hix]
omit hb lb
theorem Pq(n:Nd)(B:Blk)(j3:Env)(m:Nat)(he:E52 j3 b0 neg h.length m)(hk:n.k=0∨n.k=1) :
  ∃j3' F',evC K (mu K) fN ⟨j3,F52 n B::h⟩=some (.ret,⟨j3',(.box 185 false (bB (cB (decide (n.k=0) != neg)))::F')::h⟩)∧get j3' 6=.ptr (h.length,0) 0:=by
 obtain⟨g0,g2,g6,g7,g8⟩:=he;have k81:=λb h=>f145 b h
 rcases hk with hk|hk
 ·have d:(n.k=0)=True:=by simp[hk]
  cases neg<;>simp[fN,KL,aa,g2,g6,g7,d,k81]
 ·have d:(n.k=0)=False:=by simp[hk]
  have d1:(n.k=1)=True:=by simp[hk]
  cases neg<;>simp[fN,KL,aa,g2,g6,g7,d,d1,k81]
theorem Ww(n:Nd)(B:Blk)(j3:Env)(m:Nat)(he:E52 j3 b0 neg h.length m)(hk:n.k=2)(x:Nat)(hx:n.kids.l[0]?=some (x:Int))(c:Cd)
  (k52:∀B,(mu K).fn 93 [.ptr b0 0,iV (x:Int),.bool (!neg)] (F52 n B::h)=some (.val (bB c) (F52 n B::h))) :
  ∃j3' F',evC K (mu K) fN ⟨j3,F52 n B::h⟩=some (.ret,⟨j3',(.box 185 false (bB c)::F')::h⟩)∧get j3' 6=.ptr (h.length,0) 0:=by
 obtain⟨g0,g2,g6,g7,g8⟩:=he;have hix:=λ(k:IntKind)=>cK (av:=iV) (sz:=1) (s:=n.kids) (k:=k) (j:=0) (x:=(x:Int)) (by omega) (by simpa using hx) rfl
 have d0:(n.k=0)=False:=by simp[hk]
 have d1:(n.k=1)=False:=by simp[hk]
 have d2:(n.k=2)=True:=by simp[hk]
 have qc:=fX c;simp[fN,KL,aa,g0,g2,g6,g7,d0,d1,d2,hix,k52]
include hb lb
theorem Wx(n:Nd)(B:Blk)(j3:Env)(m:Nat)(he:E52 j3 b0 neg h.length m)(hk:n.k=6)(hh:How n.num)(x y:Nat)(a b:Nd)(hx:n.kids.l[0]?=some (x:Int))(hy:n.kids.l[1]?=some (y:Int))(ha:p.nodes.l[x]?=some a)(hb':p.nodes.l[y]?=some b)(c:Cd)
  (k82:∀B,(mu K).fn 146 [.ptr b0 0,iV (sg neg n.num),a.av,b.av] (F52 n B::h)=some (.val (bB c) (F52 n B::h))) :
  ∃j3' F',evC K (mu K) fN ⟨j3,F52 n B::h⟩=some (.ret,⟨j3',(.box 185 false (bB c)::F')::h⟩)∧get j3' 6=.ptr (h.length,0) 0:=by
 obtain⟨g0,g2,g6,g7,g8⟩:=he;have up:∀F,hget (F::h) b0=some (.box 181 false (bK p l)):=λF=>by simp only[hget];rw[if_neg (by omega)];exact hb
 have ka:=λF=>f148 p l b0 (F::h) (up F) (by simp only[Io];omega) n 0 (by omega) x a (by simpa using hx) ha
 have kb:=λF=>f148 p l b0 (F::h) (up F) (by simp only[Io];omega) n 1 (by omega) y b (by simpa using hy) hb'
 have k83:=λh=>f147 n.num hh neg h
 have qn:=ak _ aP n.kids;have qa:=ak _ aP a.kids;have qb:=ak _ aP b.kids;have d0:(n.k=0)=False:=by simp[hk]
 have d1:(n.k=1)=False:=by simp[hk]
 have d2:(n.k=2)=False:=by simp[hk]
 have d6:(n.k=6)=True:=by simp[hk]
 have qc:=fX c;generalize sg neg n.num=S at *
 simp[fN,KL,aa,g0,g2,g6,g7,d0,d1,d2,d6,ka,kb,k83,k82,qn]
theorem Tg(n:Nd)(B:Blk)(j3:Env)(m:Nat)(he:E52 j3 b0 neg h.length m)(hk:n.k=7)(hneg:neg=false)(x y z:Nat)(a b c:Nd)(hx:n.kids.l=[(x:Int),(y:Int),(z:Int)])(ha:p.nodes.l[x]?=some a)(hb':p.nodes.l[y]?=some b)(hc:p.nodes.l[z]?=some c)
  (qk:a.k=9∧b.k=10∧c.k=10) (w:Cd) (k85:∀B,(mu K).fn 149 [.ptr b0 0,a.av,iV b.num,iV c.num] (F52 n B::h)=some (.val (bB w) (F52 n B::h))) :
  ∃j3' F',evC K (mu K) fN ⟨j3,F52 n B::h⟩=some (.ret,⟨j3',(.box 185 false (bB w)::F')::h⟩)∧get j3' 6=.ptr (h.length,0) 0:=by
 obtain⟨g0,g2,g6,g7,g8⟩:=he;subst hneg;obtain⟨ka9,aek,ael⟩:=qk;have up:∀F,hget (F::h) b0=some (.box 181 false (bK p l)):=λF=>by simp only[hget];rw[if_neg (by omega)];exact hb
 have ka:=λF=>f148 p l b0 (F::h) (up F) (by simp only[Io];omega) n 0 (by omega) x a (by rw[hx];rfl) ha
 have kb:=λF=>f148 p l b0 (F::h) (up F) (by simp only[Io];omega) n 1 (by omega) y b (by rw[hx];rfl) hb'
 have kc:=λF=>f148 p l b0 (F::h) (up F) (by simp only[Io];omega) n 2 (by omega) z c (by rw[hx];rfl) hc
 have qn:=ak _ aP n.kids;have qa:=ak _ aP a.kids;have qb:=ak _ aP b.kids;have qc:=ak _ aP c.kids;have d0:(n.k=0)=False:=by simp[hk]
 have d1:(n.k=1)=False:=by simp[hk]
 have d2:(n.k=2)=False:=by simp[hk]
 have d6:(n.k=6)=False:=by simp[hk]
 have d7:(n.k=7)=True:=by simp[hk]
 have a9:(a.k=9)=True:=eq_true ka9;have b10:(b.k=10)=True:=eq_true aek;have c10:(c.k=10)=True:=eq_true ael;have qw:=fX w;simp[fN,KL,aa,g0,g2,g6,g7,d0,d1,d2,d6,d7,ka,kb,kc,a9,b10,c10,k85,qn]
theorem Ti(n:Nd)(j3:Env)(he:E52 j3 b0 neg h.length 0)(hk:n.k=7)(x y z:Nat)(a b c:Nd)(hx:n.kids.l=[(x:Int),(y:Int),(z:Int)])(ha:p.nodes.l[x]?=some a)(hb':p.nodes.l[y]?=some b)(hc:p.nodes.l[z]?=some c)
  (hno:¬ (neg=false∧a.k=9∧b.k=10∧c.k=10)) (u v w:Cd)
  (k82:∀B,(mu K).fn 146 [.ptr b0 0,iV (sg neg 5),a.av,b.av] (F52 n B::h)=some (.val (bB u) (F52 n B::h)))
  (Tt:∀B,(mu K).fn 146 [.ptr b0 0,iV (sg neg 3),a.av,c.av] (F52 n B::h)=some (.val (bB v) (F52 n B::h)))
  (k86:∀B,(mu K).fn 150 [iV (if neg=true then 1 else 2),.lst [bB u,bB v]] (F52 n B::h)=some (.val (bB w) (F52 n B::h))) :
  ∃j3' F',evC K (mu K) fN ⟨j3,F52 n (.arr 0 0 false [])::h⟩=some (.ret,⟨j3',(.box 185 false (bB w)::F')::h⟩)∧get j3' 6=.ptr (h.length,0) 0:=by
 obtain⟨g0,g2,g6,g7,g8⟩:=he;have up:∀F,hget (F::h) b0=some (.box 181 false (bK p l)):=λF=>by simp only[hget];rw[if_neg (by omega)];exact hb
 have ka:=λF=>f148 p l b0 (F::h) (up F) (by simp only[Io];omega) n 0 (by omega) x a (by rw[hx];rfl) ha
 have kb:=λF=>f148 p l b0 (F::h) (up F) (by simp only[Io];omega) n 1 (by omega) y b (by rw[hx];rfl) hb'
 have kc:=λF=>f148 p l b0 (F::h) (up F) (by simp only[Io];omega) n 2 (by omega) z c (by rw[hx];rfl) hc
 have k83:=λh=>f147 5 (by simp[How]) neg h
 have Tu:=λh=>f147 3 (by simp[How]) neg h
 have qn:=ak _ aP n.kids;have qa:=ak _ aP a.kids;have qb:=ak _ aP b.kids;have qc:=ak _ aP c.kids;have d0:(n.k=0)=False:=by simp[hk]
 have d1:(n.k=1)=False:=by simp[hk]
 have d2:(n.k=2)=False:=by simp[hk]
 have d6:(n.k=6)=False:=by simp[hk]
 have d7:(n.k=7)=True:=by simp[hk]
 have qw:=fX w;have qu:=fX u;have qv:=fX v;have rm1:208<=room:=by unfold room;omega
 have rm2:2<=room:=by unfold room;omega
 generalize sg neg 5=S at *
 generalize sg neg 3=S' at *
 cases neg
 ·simp only[afA,if_false]at k86;by_cases a9:a.k=9
  ·have a9:(a.k=9)=True:=eq_true a9;by_cases b10:b.k=10
   ·have c10:(c.k=10)=False:=eq_false (λq=>hno ⟨rfl,of_eq_true a9,b10,q⟩);have b10:(b.k=10)=True:=eq_true b10;simp[fN,KL,aa,g0,g2,g6,g7,g8,d0,d1,d2,d6,d7,ka,kb,kc,k83,Tu,a9,b10,c10,k82,Tt,k86,qn,rm1,rm2]
   ·simp[fN,KL,aa,g0,g2,g6,g7,g8,d0,d1,d2,d6,d7,ka,kb,kc,k83,Tu,a9,b10,k82,Tt,k86,qn,rm1,rm2]
  ·simp[fN,KL,aa,g0,g2,g6,g7,g8,d0,d1,d2,d6,d7,ka,kb,kc,k83,Tu,a9,k82,Tt,k86,qn,rm1,rm2]
 ·simp only[if_true]at k86;simp[fN,KL,aa,g0,g2,g6,g7,g8,d0,d1,d2,d6,d7,ka,kb,kc,k83,Tu,k82,Tt,k86,qn,rm1,rm2]
theorem PC(n:Nd)(hn:n.kids.l.length<=1000)(hn1:1<=n.kids.l.length)(x0:Nat)(a:Nd)(h0:n.kids.l[0]?=some (x0:Int))(ha:p.nodes.l[x0]?=some a)
  (hall:∀x∈n.kids.l,∃(j:Nat) (b:Nd),x=(j:Int)∧p.nodes.l[j]?=some b) (V:Int->Cd)
  (k82:∀(j:Nat) (b:Nd) (B:Blk),(j:Int)∈n.kids.l.drop 1->p.nodes.l[j]?=some b->(mu K).fn 146 [.ptr b0 0,iV (sg neg 0),a.av,b.av] (F52 n B::h)=some (.val (bB (V (j:Int))) (F52 n B::h))) :
  ∃j3,(mu K).code (.af 3 [0,2,6,7,8,9] BD) ⟨[(0,.ptr b0 0),(2,.bool neg),(6,.ptr (h.length,0) 0),(7,.ptr (h.length,1) 0),(8,.own (h.length,2) 0),(9,iV 1)],F52 n (.arr 0 0 false [])::h⟩ =
   some (.exit 1,⟨j3,F52 n (rcB ((n.kids.l.drop 1).map V))::h⟩)∧get j3 2=.bool neg∧get j3 6=.ptr (h.length,0) 0∧get j3 8=.own (h.length,2) ((n.kids.l.drop 1).map V).length:=by
 have hdl:(n.kids.l.drop 1).length=n.kids.l.length-1:=by simp
 have up:∀F,hget (F::h) b0=some (.box 181 false (bK p l)):=λF=>by simp only[hget];rw[if_neg (by omega)];exact hb
 have ka:=λF=>f148 p l b0 (F::h) (up F) (by simp only[Io];omega) n 0 (by omega) x0 a (by simpa using h0) ha
 have k83:=λh=>f147 0 (by simp[How]) neg h
 have qn:=ak _ aP n.kids;have qa:=ak _ aP a.kids;have key:=aB (K:=K) (n:=3) (live:=[0,2,6,7,8,9]) (a:=BD) (ρ:=Unit) (λ(b:List Cd) (x:Int)=>.inl (b++[V x]))
  (λj4 b=>⟨[(0,.ptr b0 0),(2,.bool neg),(6,.ptr (h.length,0) 0),(7,.ptr (h.length,1) 0),(8,.own (h.length,2) b.length),(9,iV ((j4.length:Int)+1))],F52 n (rcB b)::h⟩)
  (λj4 b=>b.length=j4.length)
  (λb o=>∃j3,o=some (.exit 1,⟨j3,F52 n (rcB b)::h⟩)∧get j3 2=.bool neg∧get j3 6=.ptr (h.length,0) 0∧get j3 8=.own (h.length,2) b.length)
  (λ_ _=>False) (n.kids.l.drop 1)
  (λj4 x r b hl' hb2=>by
   have hp:j4.length<(n.kids.l.drop 1).length:=by rw[hl'];simp
   have h1:((j4.length:Int)+1<(n.kids.l.length:Int))=True:=by simp;omega
   have h2:n.kids.l[j4.length+1]?=some x:=by
    have:(n.kids.l.drop 1)[j4.length]?=some x:=by rw[hl'];simp
    rw[ags]at this;rwa[Nat.add_comm]at this
   have w1:IntKind.i64.wrap ((j4.length:Int)+1+1)=(j4.length:Int)+1+1:=wrap64 (by omega) (by omega);have hmx:x∈n.kids.l.drop 1:=by rw[hl'];simp
   obtain⟨j,nb,rfl,hj⟩:=hall x (afB h2);have k:=λB=>k82 j nb B hmx hj
   have kb:=λF=>f148 p l b0 (F::h) (up F) (by simp only[Io];omega) n ((j4.length:Int)+1) (by omega) j nb (by rw[show ((j4.length:Int)+1).toNat=j4.length+1 by omega];exact h2) hj
   have qb:=ak _ aP nb.kids;have qv:=fX (V (j:Int));have r1:(b.length+1)*104<=room:=by unfold room;omega
   have r2:b.length+1<=room:=by unfold room;omega
   obtain⟨t0,z0,hcB,hz⟩:=jX b;have hz:(z0=0∨t0=185∧z0=7)=True:=by simp[hz]
   have hlb:(b.map bB).length=b.length:=by simp
   rw[hb2]at r1 r2 hlb;refine⟨λb' e=>?_,λ_ e=>by cases e⟩;injection e with e
   subst e;refine⟨by simp[hb2],?_⟩;rw[aj];generalize (mu K).code _=FF;simp only[wB];rw[hcB];clear hl';generalize sg neg 0=S at *
   simp[BD,KL,aa,h1,w1,ka,kb,k83,k,r1,r2,hz,hlb,hb2,qn])
  (λb hb=>by
   have h1:((((n.kids.l.drop 1).length:Nat):Int)+1<(n.kids.l.length:Int))=False:=by rw[hdl];simp;omega
   rw[aj];generalize (mu K).code _=FF;generalize (n.kids.l.drop 1).length=D at *
   simp[BD,h1]) [] rfl
 have e:∀(l:List Int) (b:List Cd),iter (λ(b:List Cd) (x:Int)=>(.inl (b++[V x]):List Cd ⊕ Unit)) b l=.inl (b++l.map V):=λl=>by
  induction l with
  |nil=>intro b;simp[iter]
  |cons c l ih=>intro b;simp[iter,ih]
 rw[e]at key;simpa[rcB]using key.2
theorem Wy(n:Nd)(j3:Env)(he:E52 j3 b0 neg h.length 0)(hk:n.k=8)(hn:n.kids.l.length<=1000)(hn1:1<=n.kids.l.length)(x0:Nat)(a:Nd)(h0:n.kids.l[0]?=some (x0:Int))(ha:p.nodes.l[x0]?=some a)
  (hall:∀x∈n.kids.l,∃(j:Nat) (b:Nd),x=(j:Int)∧p.nodes.l[j]?=some b) (V:Int->Cd) (w:Cd)
  (k82:∀(j:Nat) (b:Nd) (B:Blk),(j:Int)∈n.kids.l.drop 1->p.nodes.l[j]?=some b->(mu K).fn 146 [.ptr b0 0,iV (sg neg 0),a.av,b.av] (F52 n B::h)=some (.val (bB (V (j:Int))) (F52 n B::h)))
  (k86:∀B,(mu K).fn 150 [iV (if neg=true then (((n.kids.l.drop 1).map V).length:Int) else 1),.lst (((n.kids.l.drop 1).map V).map bB)] (F52 n B::h)=some (.val (bB w) (F52 n B::h))) :
  ∃j3' F',evC K (mu K) fN ⟨j3,F52 n (.arr 0 0 false [])::h⟩=some (.ret,⟨j3',(.box 185 false (bB w)::F')::h⟩)∧get j3' 6=.ptr (h.length,0) 0:=by
 obtain⟨g0,g2,g6,g7,g8⟩:=he;have d0:(n.k=0)=False:=by simp[hk]
 have d1:(n.k=1)=False:=by simp[hk]
 have d2:(n.k=2)=False:=by simp[hk]
 have d6:(n.k=6)=False:=by simp[hk]
 have d7:(n.k=7)=False:=by simp[hk]
 have d8:(n.k=8)=True:=by simp[hk]
 obtain⟨jA,k,a2,a6,a8⟩:=PC p l neg b0 h hb lb n hn hn1 x0 a h0 ha hall V k82;obtain⟨t0,z0,hcB,hz⟩:=jX ((n.kids.l.drop 1).map V);rw[hcB]at k;have hlb:(((n.kids.l.drop 1).map V).map bB).length=((n.kids.l.drop 1).map V).length:=by simp
 generalize (n.kids.l.drop 1).map V=Q at *
 generalize Q.map bB=M at *
 have qw:=fX w;cases neg
 ·simp only[afA,if_false]at k86;simp[fN,KL,aa,g0,g2,g6,g7,g8,d0,d1,d2,d6,d7,d8,k,a2,a6,a8,hlb,k86]
 ·simp only[if_true]at k86;simp[fN,KL,aa,g0,g2,g6,g7,g8,d0,d1,d2,d6,d7,d8,k,a2,a6,a8,hlb,k86]
omit hb lb
theorem PD(n:Nd)(ks:List Tr)(hks:n.kids.l=ks.map λk=>(k.i:Int))(hn:ks.length<=1000)(V:Tr->Cd)
  (k52:∀k∈ks,∀B,(mu K).fn 93 [.ptr b0 0,iV (k.i:Int),.bool neg] (F52 n B::h)=some (.val (bB (V k)) (F52 n B::h))) :
  ∃j3,(mu K).code (.af 3 [0,2,6,7,8,10] BF) ⟨[(0,.ptr b0 0),(2,.bool neg),(6,.ptr (h.length,0) 0),(7,.ptr (h.length,1) 0),(8,.own (h.length,2) 0),(10,iV 0)],F52 n (.arr 0 0 false [])::h⟩ =
   some (.exit 3,⟨j3,F52 n (rcB (ks.map V))::h⟩)∧get j3 2=.bool neg∧get j3 6=.ptr (h.length,0) 0∧get j3 7=.ptr (h.length,1) 0∧get j3 8=.own (h.length,2) (ks.map V).length:=by
 have hkl:n.kids.l.length=ks.length:=by rw[hks];simp
 have key:=aB (K:=K) (n:=3) (live:=[0,2,6,7,8,10]) (a:=BF) (ρ:=Unit) (λ(b:List Cd) (x:Tr)=>.inl (b++[V x]))
  (λj4 b=>⟨[(0,.ptr b0 0),(2,.bool neg),(6,.ptr (h.length,0) 0),(7,.ptr (h.length,1) 0),(8,.own (h.length,2) b.length),(10,iV (j4.length:Int))],F52 n (rcB b)::h⟩)
  (λj4 b=>b.length=j4.length)
  (λb o=>∃j3,o=some (.exit 3,⟨j3,F52 n (rcB b)::h⟩)∧get j3 2=.bool neg∧get j3 6=.ptr (h.length,0) 0∧get j3 7=.ptr (h.length,1) 0∧get j3 8=.own (h.length,2) b.length)
  (λ_ _=>False) ks
  (λj4 x r b hl' hb=>by
   obtain⟨h1,h2,w1⟩:=aA hl' (by omega);have hp:j4.length<ks.length:=(aft.1 h2).1;have g2:n.kids.l[j4.length]?=some (x.i:Int):=by rw[hks,afy,h2];rfl
   have hix:=iaP iV 1 n.kids j4.length (x.i:Int) (by simpa using g2);have h1':((j4.length:Int)<(n.kids.l.length:Int))=True:=by rw[hkl];simp;omega
   have k:=k52 x (afB h2);have qv:=fX (V x);have r1:(b.length+1)*104<=room:=by unfold room;omega
   have r2:b.length+1<=room:=by unfold room;omega
   obtain⟨t0,z0,hcB,hz⟩:=jX b;have hz:(z0=0∨t0=185∧z0=7)=True:=by simp[hz]
   have hlb:(b.map bB).length=b.length:=by simp
   rw[hb]at r1 r2 hlb;refine⟨λb' e=>?_,λ_ e=>by cases e⟩;injection e with e
   subst e;refine⟨by simp[hb],?_⟩;rw[aj];generalize (mu K).code _=FF;simp only[wB];rw[hcB];clear hl';simp[BF,KL,aa,h1',hix,w1,k,r1,r2,hz,hlb,hb])
  (λb hb=>by
   rw[aj];generalize (mu K).code _=FF;simp[BF,hkl]) [] rfl
 have e:∀(l:List Tr) (b:List Cd),iter (λ(b:List Cd) (x:Tr)=>(.inl (b++[V x]):List Cd ⊕ Unit)) b l=.inl (b++l.map V):=λl=>by
  induction l with
  |nil=>intro b;simp[iter]
  |cons c l ih=>intro b;simp[iter,ih]
 rw[e]at key;simpa[rcB]using key.2
theorem Wz(n:Nd)(j3:Env)(he:E52 j3 b0 neg h.length 0)(hk:n.k=3∨n.k=4∨n.k=5):∃j3',evC K (mu K) fN ⟨j3,F52 n (.arr 0 0 false [])::h⟩=some (.norm,⟨j3',F52 n (.arr 0 0 false [])::h⟩)∧E52 j3' b0 neg h.length 0:=by
 obtain⟨g0,g2,g6,g7,g8⟩:=he;have d0:(n.k=0)=False:=by simp;omega
 have d1:(n.k=1)=False:=by simp;omega
 have d2:(n.k=2)=False:=by simp;omega
 have d6:(n.k=6)=False:=by simp;omega
 have d7:(n.k=7)=False:=by simp;omega
 have d8:(n.k=8)=False:=by simp;omega
 have mk:∀{j3:Env},(get j3 0=.ptr b0 0∧get j3 2=.bool neg∧get j3 6=.ptr (h.length,0) 0∧get j3 7=.ptr (h.length,1) 0∧get j3 8=.own (h.length,2) 0)->E52 j3 b0 neg h.length 0:=λ⟨a,b,c,d,e⟩=>⟨a,b,c,d,e⟩
 suffices ∃j3',_∧_ from let ⟨e,x,y⟩:=this;⟨e,x,mk y⟩
 simp[fN,g0,g2,g6,g7,g8,d0,d1,d2,d6,d7,d8]
theorem Pr(n:Nd)(j3:Env)(he:E52 j3 b0 neg h.length 0)(hk:n.k=3∨n.k=4∨n.k=5)(ks:List Tr)(hks:n.kids.l=ks.map λk=>(k.i:Int))(hn:ks.length<=1000)(V:Tr->Cd)(w:Cd)(k0:Int)(hk0:k0=if n.k=3 then (ks.length:Int) else if n.k=4 then 1 else n.num)(b0k:0<=k0∧k0<=500000)
  (k52:∀k∈ks,∀B,(mu K).fn 93 [.ptr b0 0,iV (k.i:Int),.bool neg] (F52 n B::h)=some (.val (bB (V k)) (F52 n B::h)))
  (k86:∀B,(mu K).fn 150 [iV (if neg=true then (ks.length:Int)-k0+1 else k0),.lst ((ks.map V).map bB)] (F52 n B::h)=some (.val (bB w) (F52 n B::h))) :
  goF c93.res (evC K (mu K) (.seq qm (.seq qo (.seq qp (.seq qq (.seq qB (.seq qC kG)))))) ⟨j3,F52 n (.arr 0 0 false [])::h⟩)=some (.val (bB w) h):=by
 obtain⟨g0,g2,g6,g7,g8⟩:=he;obtain⟨jA,k,a2,a6,a7,a8⟩:=PD neg b0 h n ks hks hn V k52;obtain⟨t0,z0,hcB,hz⟩:=jX (ks.map V);rw[hcB]at k;have hlb:((ks.map V).map bB).length=(ks.map V).length:=by simp
 have hml:(ks.map V).length=ks.length:=by simp
 have w1:IntKind.i64.wrap ((ks.length:Int)-k0)=(ks.length:Int)-k0:=wrap64 (by omega) (by omega);have w2:IntKind.i64.wrap ((ks.length:Int)-k0+1)=(ks.length:Int)-k0+1:=wrap64 (by omega) (by omega);generalize ks.map V=Q at *
 generalize Q.map bB=M at *
 have qw:=fX w;have go:∀(D3:(n.k=3)=True∨(n.k=3)=False) (D4:(n.k=4)=True∨(n.k=4)=False),True:=λ_ _=>trivial
 by_cases k3:n.k=3
 ·have d3:(n.k=3)=True:=by simp[k3]
  have d4:(n.k=4)=False:=by simp[k3]
  rw[if_pos k3]at hk0;subst hk0;cases neg
  ·simp only[afA,if_false]at k86;simp[qm,qo,qp,qq,qB,qC,kG,c93,KL,aa,g0,g2,g6,g7,g8,d3,d4,k,a2,a6,a7,a8,hlb,hml,k86]
  ·simp only[if_true]at k86;simp only[Int.sub_self,agE]at k86 w1 w2;simp[qm,qo,qp,qq,qB,qC,kG,c93,KL,aa,g0,g2,g6,g7,g8,d3,d4,k,a2,a6,a7,a8,hlb,hml,k86,w1,w2]
 by_cases k4:n.k=4
 ·have d4:(n.k=4)=True:=by simp[k4]
  rw[if_neg k3,if_pos k4]at hk0;subst hk0;cases neg
  ·simp only[afA,if_false]at k86;simp[qm,qo,qp,qq,qB,qC,kG,c93,KL,aa,g0,g2,g6,g7,g8,k3,d4,k,a2,a6,a7,a8,hlb,hml,k86]
  ·simp only[if_true,Int.sub_add_cancel]at k86 w2;simp[qm,qo,qp,qq,qB,qC,kG,c93,KL,aa,g0,g2,g6,g7,g8,k3,d4,k,a2,a6,a7,a8,hlb,hml,k86,w1,w2]
 ·rw[if_neg k3,if_neg k4]at hk0;subst hk0;cases neg
  ·simp only[afA,if_false]at k86;simp[qm,qo,qp,qq,qB,qC,kG,c93,KL,aa,g0,g2,g6,g7,g8,k3,k4,k,a2,a6,a7,a8,hlb,hml,k86]
  ·simp only[if_true]at k86;simp[qm,qo,qp,qq,qB,qC,kG,c93,KL,aa,g0,g2,g6,g7,g8,k3,k4,k,a2,a6,a7,a8,hlb,hml,k86,w1,w2]
end
theorem f106(k:Int)(hk:-1000000<=k∧k<=1000000)(cs:List Cd)(hg:∀c∈cs,GNe c)(hs:Cd.sizes cs<=1000000)(nl:Bool)(h:Heap) :
  (mu K).fn 106 [iV k,lv nl (cs.map aX)] h=some (.val (aX (thr k cs)) h):=by
 have hcl:=cZ cs;obtain⟨j3,k0,g0,g5⟩:=Nv k hk cs (by omega) nl h;have nV:=λb h=>f107 b h
 rw[aC (KX _ _ _) Ze rfl (by simp[Jw])];unfold thr;generalize hm:k-gW cs=m at *
 by_cases c1:m<=0
 ·rw[if_pos c1];simp[Jw,KL,aa,k0,g0,c1,nV]
 rw[if_neg c1];by_cases c2:((rest cs).length:Int)<m
 ·rw[if_pos c2];simp[Jw,KL,aa,k0,g0,g5,c1,c2,nV]
 rw[if_neg c2];have hrg:∀c∈rest cs,GNe c:=λc hc=>hg c (rA hc).1
 have hrs:Cd.sizes (rest cs)<=1000000:=af3 (pK cs) hs
 match hr:rest cs with
 | []=>rw[hr]at c2;simp at c2;omega
 | [c]=>
  rw[hr]at k0 g5 c2;have c2':((1:Int)<m)=False:=by simp at c2⊢;omega
  simp only[Io,iO]at g5;simp[Jw,k0,g0,g5,c1,c2',cdB]
 |c::d::r=>
  simp only;rw[<-hr];have hlen:2<=(rest cs).length:=by rw[hr];simp
  have hB:cdB (rest cs)=.arr 121 1 false ((rest cs).map aX):=by rw[hr];rfl
  generalize rest cs=R at *
  clear hr;rw[hB]at k0;have l1:((R.length:Int)=1)=False:=by simp;omega
  have hml:=merge_le true m R;have aem:=merge_le false m R;by_cases c3:m=(R.length:Int)
  ·rw[if_pos c3];obtain⟨jA,k1,e0,e10,e11⟩:=El m true R hrg hrs h;obtain⟨t0,z0,hcB,hz⟩:=jU (bw true m R);have hz:(z0=0∨t0=121∧z0=1)=True:=by simp[hz]
   rw[hcB]at k1;have hlb:((bw true m R).map aX).length=(bw true m R).length:=by simp
   rw[aX,fV];rw[<-c3]at c2 l1 k1;generalize R.map aX=M at *
   generalize bw true m R=Q at *
   have c1':(m<=0)=False:=by simp;omega
   simp[Jw,k0,g0,g5,c1',<-c3,l1,k1,e10,e11,hlb]
  ·rw[if_neg c3];obtain⟨jA,k1,e0,e10,e11⟩:=El m false R hrg hrs h;obtain⟨t0,z0,hcB,hz⟩:=jU (bw false m R);have hz:(z0=0∨t0=121∧z0=1)=True:=by simp[hz]
   rw[hcB]at k1;have hlb:((bw false m R).map aX).length=(bw false m R).length:=by simp
   rw[aX,fV];generalize R.map aX=M at *
   generalize bw false m R=Q at *
   simp[Jw,k0,g0,g5,c1,c2,c3,l1,k1,e0,e10,e11,hlb]
section
variable(p:Po)(hp:Sz p)(l:Sl Sc)(hl:okL l)(hr:bz p l.l=0)
include hp hl hr
theorem f102(neg:Bool)(n:Nd)(b3 b4 b5:Loc)(h:Heap)(h3:hget h b3=some (.box 4 false (.bool neg)))(h4:hget h b4=some (.box 123 false (bK p l)))(h5:hget h b5=some (.box 90 false n.av))
  (l3:b3.1<h.length) (l4:b4.1<h.length) (l5:b5.1<h.length) (j6:Int) (hh:How j6) (i j:Int) (hi:0<=i∧i<=1000) (hj:0<=j∧j<=1000) (x y:Nat) (a b:Nd)
  (ei:n.kids.l[i.toNat]?=some (x:Int)) (ej:n.kids.l[j.toNat]?=some (y:Int)) (ea:p.nodes.l[x]?=some a) (eb:p.nodes.l[y]?=some b) (na:wj a) (nb:wj b) :
  (mu K).fn 102 [iV j6,iV i,iV j,.ptr b3 0,.ptr b4 0,.ptr b5 0] h=some (.val (aX (values (au p.uses.l l.l) (sg neg j6) a b)) h):=by
 have aen:=λh=>f103 j6 hh h
 have xN:=λj6' hh' h=>f104 p hp l hl hr j6' hh' a b na nb h
 have i1:=λ(k:IntKind)=>cK (av:=iV) (sz:=1) (s:=n.kids) (k:=k) (j:=i) (x:=(x:Int)) hi.1 ei rfl
 have i2:=λ(k:IntKind)=>cK (av:=iV) (sz:=1) (s:=n.kids) (k:=k) (j:=j) (x:=(y:Int)) hj.1 ej rfl
 have i3:=iaP Nd.av 6 p.nodes x a (by simpa using ea);have i4:=iaP Nd.av 6 p.nodes y b (by simpa using eb);have q1:=ak _ dI p.uses;have q2:=ak _ dz p.az;have q3:=ak _ bX p.nodes;have q4:=ak _ eo l;have qa:=ak _ aP a.kids;have qb:=ak _ aP b.kids;have n3:(b3.1=h.length)=False:=by simp;omega
 have n4:(b4.1=h.length)=False:=by simp;omega
 have n5:(b5.1=h.length)=False:=by simp;omega
 simp only[bK,Po.cs,afo,afq]at xN h4⊢;rw[aC (KX _ _ _) Za rfl (by simp[SD])];cases neg
 ·have xN:=λh=>xN j6 hh h
  simp[SD,KL,aa,h3,h4,h5,n3,n4,n5,i1,i2,i3,i4,xN,sg]
 ·have xN:=λh=>xN _ (Ef hh) h
  simp[SD,KL,aa,h3,h4,h5,n3,n4,n5,i1,i2,i3,i4,aen,xN,sg]
end
theorem f105(neg:Bool)(b2:Loc)(h:Heap)(h2:hget h b2=some (.box 4 false (.bool neg)))(l2:b2.1<h.length)(k:Int)(hk:0<=k∧k<=500000)(cs:List Cd)(hg:∀c∈cs,GNe c)(hs:Cd.sizes cs<=400000)(nl:Bool) :
  (mu K).fn 105 [iV k,lv nl (cs.map aX),.ptr b2 0] h=some (.val (aX (ofC neg k cs)) h):=by
 have hcl:=cZ cs;have Nw:=λk' hk' h=>f106 k' hk' cs hg (by omega) nl h
 have n2:(b2.1=h.length)=False:=by simp;omega
 have w1:IntKind.i64.wrap ((cs.length:Int)-k)=(cs.length:Int)-k:=wrap64 (by omega) (by omega);have w2:IntKind.i64.wrap ((cs.length:Int)-k+1)=(cs.length:Int)-k+1:=wrap64 (by omega) (by omega);have hll:(cs.map aX).length=cs.length:=by simp
 unfold ofC;rw[aC (KX _ _ _) Zd rfl (by simp[SE])];cases neg
 ·have Nw:=λh=>Nw k (by omega) h
  generalize cs.map aX=M at *
  simp[SE,KL,aa,h2,n2,Nw]
 ·have Nw:=λh=>Nw ((cs.length:Int)-k+1) (by omega) h
  generalize cs.map aX=M at *
  simp[SE,KL,aa,h2,n2,Nw,w1,w2,hll]
theorem f108(p:Po)(l:Sl Sc)(n:Nd)(b1 b2:Loc)(h:Heap)(h1:hget h b1=some (.box 123 false (bK p l)))(h2:hget h b2=some (.box 90 false n.av))(l1:b1.1<h.length)(l2:b2.1<h.length)
  (i:Int) (hi:0<=i∧i<=1000) (x:Nat) (a:Nd) (ei:n.kids.l[i.toNat]?=some (x:Int)) (ea:p.nodes.l[x]?=some a) :
  (mu K).fn 108 [iV i,.ptr b1 0,.ptr b2 0] h=some (.val (iV a.k) h):=by
 have i1:=λ(k:IntKind)=>cK (av:=iV) (sz:=1) (s:=n.kids) (k:=k) (j:=i) (x:=(x:Int)) hi.1 ei rfl
 have i3:=iaP Nd.av 6 p.nodes x a (by simpa using ea);have n1:(b1.1=h.length)=False:=by simp;omega
 have n2:(b2.1=h.length)=False:=by simp;omega
 simp only[bK,Po.cs,afo,afq]at h1;rw[aC (KX _ _ _) Zg rfl (by simp[VG])];simp[VG,h1,h2,n1,n2,i1,i3]
theorem Pk:c50.body=.code (.seq Bn (.seq DZ (.seq D2 (.seq D5 (.seq D6 (.seq gi (.seq vJ (.seq vK (.seq Bo Bp))))))))):=rfl
abbrev fnA(n:Nat):AV:=.fn (.func 102) [] [.ptr (n,1) 0,.ptr (n,0) 0,.ptr (n,2) 0]
abbrev fnB(n:Nat):AV:=.fn (.func 105) [] [.ptr (n,1) 0]
def Av(j3:Env)(n m:Nat):Prop:=get j3 3=.ptr (n,0) 0∧get j3 5=.ptr (n,1) 0∧get j3 7=.ptr (n,2) 0∧get j3 8=fnA n∧get j3 9=fnB n∧get j3 10=.own (n,3) m
abbrev cT(p:Po)(l:Sl Sc)(neg:Bool)(n:Nd)(B:Blk):List Blk:=[.box 123 false (bK p l),.box 4 false (.bool neg),.box 90 false n.av,B]
theorem Ws(j3:Env)(c:Cd)(e:get j3 6=aX c)(F:List Blk)(h:Heap):goF c50.res (some (.ret,⟨j3,F::h⟩))=some (.val (aX c) h):=by
 simp[c50,e]
section
variable(p:Po)(l:Sl Sc)(neg:Bool)(h:Heap)
theorem aa9(i:Nat)(n:Nd)(hn:p.nodes.l[i]?=some n) :
  ∃j3,evC K (mu K) (.seq Bn (.seq DZ (.seq D2 (.seq D5 D6)))) ⟨cI 0 [bK p l,iV (i:Int),.bool neg],[]::h⟩=some (.norm,⟨j3,cT p l neg n (.arr 0 0 false [])::h⟩)∧Av j3 h.length 0:=by
 have hix:=iaP Nd.av 6 p.nodes i n (by simpa using hn);have qn:=ak _ aP n.kids;simp only[cT,bK,Po.cs,afo,afq];simp[Bn,DZ,D2,D5,D6,hix,Av]
theorem Pm(n:Nd)(B:Blk)(j3:Env)(m:Nat)(he:Av j3 h.length m)(hk:n.k=0∨n.k=1) :
  ∃j3' F',evC K (mu K) gi ⟨j3,cT p l neg n B::h⟩=some (.ret,⟨j3',F'::h⟩)∧get j3' 6=aX (cB (decide (n.k=0) != neg)):=by
 obtain⟨g3,g5,g7,g8,g9,g10⟩:=he;have nV:=λb h=>f107 b h
 rcases hk with hk|hk
 ·have d:(n.k=0)=True:=by simp[hk]
  cases neg<;>simp[gi,KL,aa,g5,g7,d,nV]
 ·have d:(n.k=0)=False:=by simp[hk]
  have d1:(n.k=1)=True:=by simp[hk]
  cases neg<;>simp[gi,KL,aa,g5,g7,d,d1,nV]
theorem Wu(n:Nd)(B:Blk)(j3:Env)(m:Nat)(he:Av j3 h.length m)(hk:n.k=2)(x:Nat)(hx:n.kids.l[0]?=some (x:Int))(c:Cd)(qF:∀h,(mu K).fn 50 [bK p l,iV (x:Int),.bool (!neg)] h=some (.val (aX c) h)) :
  ∃j3' F',evC K (mu K) gi ⟨j3,cT p l neg n B::h⟩=some (.ret,⟨j3',F'::h⟩)∧get j3' 6=aX c:=by
 obtain⟨g3,g5,g7,g8,g9,g10⟩:=he;have hix:=λ(k:IntKind)=>cK (av:=iV) (sz:=1) (s:=n.kids) (k:=k) (j:=0) (x:=(x:Int)) (by omega) (by simpa using hx) rfl
 have d0:(n.k=0)=False:=by simp[hk]
 have d1:(n.k=1)=False:=by simp[hk]
 have d2:(n.k=2)=True:=by simp[hk]
 have q1:=ak _ dI p.uses;have q2:=ak _ dz p.az;have q3:=ak _ bX p.nodes;have q4:=ak _ eo l;simp only[cT,bK,Po.cs,afo,afq]at qF⊢;simp[gi,KL,aa,g3,g5,g7,d0,d1,d2,hix,qF]
theorem Wv(n:Nd)(B:Blk)(j3:Env)(m:Nat)(he:Av j3 h.length m)(hk:n.k=6)(c:Cd)
  (qX:∀B,(mu K).fn 102 [iV n.num,iV 0,iV 1,.ptr (h.length,1) 0,.ptr (h.length,0) 0,.ptr (h.length,2) 0] (cT p l neg n B::h)=some (.val (aX c) (cT p l neg n B::h))) :
  ∃j3' F',evC K (mu K) gi ⟨j3,cT p l neg n B::h⟩=some (.ret,⟨j3',F'::h⟩)∧get j3' 6=aX c:=by
 obtain⟨g3,g5,g7,g8,g9,g10⟩:=he;have d0:(n.k=0)=False:=by simp[hk]
 have d1:(n.k=1)=False:=by simp[hk]
 have d2:(n.k=2)=False:=by simp[hk]
 have d6:(n.k=6)=True:=by simp[hk]
 simp only[cT,bK,Po.cs,afo,afq]at qX⊢;simp[gi,KL,aa,g7,g8,d0,d1,d2,d6,qX]
theorem Tf(n:Nd)(B:Blk)(j3:Env)(m:Nat)(he:Av j3 h.length m)(hk:n.k=7)(hneg:neg=false)(x y z:Nat)(a b c:Nd)(hx:n.kids.l=[(x:Int),(y:Int),(z:Int)])(ha:p.nodes.l[x]?=some a)(hb:p.nodes.l[y]?=some b)(hc:p.nodes.l[z]?=some c)
  (ka:a.k=9) (kb:b.k=10) (kc:c.k=10) (w:Cd) (FP:∀h,(mu K).fn 109 [bK p l,a.av,iV b.num,iV c.num] h=some (.val (aX w) h)) :
  ∃j3' F',evC K (mu K) gi ⟨j3,cT p l neg n B::h⟩=some (.ret,⟨j3',F'::h⟩)∧get j3' 6=aX w:=by
 obtain⟨g3,g5,g7,g8,g9,g10⟩:=he;subst hneg;have d0:(n.k=0)=False:=by simp[hk]
 have d1:(n.k=1)=False:=by simp[hk]
 have d2:(n.k=2)=False:=by simp[hk]
 have d6:(n.k=6)=False:=by simp[hk]
 have d7:(n.k=7)=True:=by simp[hk]
 have e0:n.kids.l[0]?=some (x:Int):=by rw[hx];rfl
 have e1:n.kids.l[1]?=some (y:Int):=by rw[hx];rfl
 have e2:n.kids.l[2]?=some (z:Int):=by rw[hx];rfl
 have i0:=λ(k:IntKind)=>cK (av:=iV) (sz:=1) (s:=n.kids) (k:=k) (j:=0) (x:=(x:Int)) (by omega) (by simpa using e0) rfl
 have i1:=λ(k:IntKind)=>cK (av:=iV) (sz:=1) (s:=n.kids) (k:=k) (j:=1) (x:=(y:Int)) (by omega) (by simpa using e1) rfl
 have i2:=λ(k:IntKind)=>cK (av:=iV) (sz:=1) (s:=n.kids) (k:=k) (j:=2) (x:=(z:Int)) (by omega) (by simpa using e2) rfl
 have ia:=iaP Nd.av 6 p.nodes x a (by simpa using ha);have ib:=iaP Nd.av 6 p.nodes y b (by simpa using hb);have ic:=iaP Nd.av 6 p.nodes z c (by simpa using hc);have f0:=λB=>f108 p l n (h.length,0) (h.length,2) (cT p l false n B::h) (by simp) (by simp) (by simp) (by simp) 0 (by omega) x a (by simpa using e0) ha
 have f1:=λB=>f108 p l n (h.length,0) (h.length,2) (cT p l false n B::h) (by simp) (by simp) (by simp) (by simp) 1 (by omega) y b (by simpa using e1) hb
 have f2:=λB=>f108 p l n (h.length,0) (h.length,2) (cT p l false n B::h) (by simp) (by simp) (by simp) (by simp) 2 (by omega) z c (by simpa using e2) hc
 rw[ka]at f0;rw[kb]at f1;rw[kc]at f2;have q1:=ak _ dI p.uses;have q2:=ak _ dz p.az;have q3:=ak _ bX p.nodes;have q4:=ak _ eo l;have qa:=ak _ aP a.kids;simp only[cT,bK,Po.cs,afo,afq]at FP f0 f1 f2⊢;simp[gi,KL,aa,g3,g5,g7,d0,d1,d2,d6,d7,i0,i1,i2,ia,ib,ic,f0,f1,f2,FP]
end
