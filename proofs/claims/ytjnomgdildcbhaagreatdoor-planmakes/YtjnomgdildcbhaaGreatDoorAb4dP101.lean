/-
  The normal form of a condition: ranges that are split, lists of values, lists of conditions.
-/
import Derived.Test.YtjnomgdildcbhaaGreatDoorAb4dP97
import Derived.Test.YtjnomgdildcbhaaGreatDoorAb4dP10
import Derived.Test.YtjnomgdildcbhaaGreatDoorAbPlan
import Derived.Test.YtjnomgdildcbhaaGreatDoorAb4dP7
import Derived.Test.YtjnomgdildcbhaaGreatDoorAb4dQ22
set_option linter.all false
set_option maxRecDepth 100000
set_option maxHeartbeats 4000000
namespace Go.Ab.Pn
open Go.Ab.Pol
section
variable(p:Po)(l:Sl Sc)(neg:Bool)(h:Heap)
theorem Tc(n:Nd)(B:Blk)(j3:Env)(m:Nat)(he:Av j3 h.length m)(hk:n.k=7)(x y z:Nat)(a b c:Nd)(hx:n.kids.l=[(x:Int),(y:Int),(z:Int)])(ha:p.nodes.l[x]?=some a)(hb:p.nodes.l[y]?=some b)(hc:p.nodes.l[z]?=some c)
  (hno:¬ (neg=false∧a.k=9∧b.k=10∧c.k=10)) (u v w:Cd)
  (qX:∀B,(mu K).fn 102 [iV 5,iV 0,iV 1,.ptr (h.length,1) 0,.ptr (h.length,0) 0,.ptr (h.length,2) 0] (cT p l neg n B::h)=some (.val (aX u) (cT p l neg n B::h)))
  (G6:∀B,(mu K).fn 102 [iV 3,iV 0,iV 2,.ptr (h.length,1) 0,.ptr (h.length,0) 0,.ptr (h.length,2) 0] (cT p l neg n B::h)=some (.val (aX v) (cT p l neg n B::h)))
  (lN:∀B,(mu K).fn 105 [iV 2,.lst [aX u,aX v],.ptr (h.length,1) 0] (cT p l neg n B::h)=some (.val (aX w) (cT p l neg n B::h))) :
  ∃j3' F',evC K (mu K) gi ⟨j3,cT p l neg n B::h⟩=some (.ret,⟨j3',F'::h⟩)∧get j3' 6=aX w:=by
 obtain⟨g3,g5,g7,g8,g9,g10⟩:=he;have d0:(n.k=0)=False:=by simp[hk]
 have d1:(n.k=1)=False:=by simp[hk]
 have d2:(n.k=2)=False:=by simp[hk]
 have d6:(n.k=6)=False:=by simp[hk]
 have d7:(n.k=7)=True:=by simp[hk]
 have e0:n.kids.l[0]?=some (x:Int):=by rw[hx];rfl
 have e1:n.kids.l[1]?=some (y:Int):=by rw[hx];rfl
 have e2:n.kids.l[2]?=some (z:Int):=by rw[hx];rfl
 have f0:=λB=>f108 p l n (h.length,0) (h.length,2) (cT p l neg n B::h) (by simp) (by simp) (by simp) (by simp) 0 (by omega) x a (by simpa using e0) ha
 have f1:=λB=>f108 p l n (h.length,0) (h.length,2) (cT p l neg n B::h) (by simp) (by simp) (by simp) (by simp) 1 (by omega) y b (by simpa using e1) hb
 have f2:=λB=>f108 p l n (h.length,0) (h.length,2) (cT p l neg n B::h) (by simp) (by simp) (by simp) (by simp) 2 (by omega) z c (by simpa using e2) hc
 simp only[cT,bK,Po.cs,afo,afq]at qX G6 lN f0 f1 f2⊢;cases neg
 ·by_cases a9:a.k=9
  ·by_cases b10:b.k=10
   ·have c10:(c.k=10)=False:=by simp;intro q;exact hno ⟨rfl,a9,b10,q⟩
    simp[gi,KL,aa,g3,g5,g7,g8,g9,d0,d1,d2,d6,d7,f0,f1,f2,a9,b10,c10,qX,G6,lN]
   ·simp[gi,KL,aa,g3,g5,g7,g8,g9,d0,d1,d2,d6,d7,f0,f1,a9,b10,qX,G6,lN]
  ·simp[gi,KL,aa,g3,g5,g7,g8,g9,d0,d1,d2,d6,d7,f0,a9,qX,G6,lN]
 ·simp[gi,KL,aa,g3,g5,g7,g8,g9,d0,d1,d2,d6,d7,qX,G6,lN]
theorem Pf(n:Nd)(hn:n.kids.l.length<=1000)(hn1:1<=n.kids.l.length)(V:Int->Cd)
  (qX:∀(j:Nat) (B:Blk),1<=j->j<n.kids.l.length->(mu K).fn 102 [iV 0,iV 0,iV (j:Int),.ptr (h.length,1) 0,.ptr (h.length,0) 0,.ptr (h.length,2) 0] (cT p l neg n B::h)=some (.val (aX (V ((n.kids.l[j]?).getD 0))) (cT p l neg n B::h))) :
  ∃j3,(mu K).code (.af 4 [7,8,9,10,12] Bk) ⟨[(7,.ptr (h.length,2) 0),(8,fnA h.length),(9,fnB h.length),(10,.own (h.length,3) 0),(12,iV 1)],cT p l neg n (.arr 0 0 false [])::h⟩ =
   some (.exit 1,⟨j3,cT p l neg n (cdB ((n.kids.l.drop 1).map V))::h⟩)∧get j3 9=fnB h.length∧get j3 10=.own (h.length,3) ((n.kids.l.drop 1).map V).length:=by
 have hdl:(n.kids.l.drop 1).length=n.kids.l.length-1:=by simp
 have key:=aB (K:=K) (n:=4) (live:=[7,8,9,10,12]) (a:=Bk) (ρ:=Unit) (λ(b:List Cd) (x:Int)=>.inl (b++[V x]))
  (λj4 b=>⟨[(7,.ptr (h.length,2) 0),(8,fnA h.length),(9,fnB h.length),(10,.own (h.length,3) b.length),(12,iV ((j4.length:Int)+1))],cT p l neg n (cdB b)::h⟩)
  (λj4 b=>b.length=j4.length)
  (λb o=>∃j3,o=some (.exit 1,⟨j3,cT p l neg n (cdB b)::h⟩)∧get j3 9=fnB h.length∧get j3 10=.own (h.length,3) b.length)
  (λ_ _=>False) (n.kids.l.drop 1)
  (λj4 x r b hl' hb=>by
   have hp:j4.length<(n.kids.l.drop 1).length:=by rw[hl'];simp
   have h1:((j4.length:Int)+1<(n.kids.l.length:Int))=True:=by simp;omega
   have h2:n.kids.l[j4.length+1]?=some x:=by
    have:(n.kids.l.drop 1)[j4.length]?=some x:=by rw[hl'];simp
    rw[ags]at this;rwa[Nat.add_comm]at this
   have w1:IntKind.i64.wrap ((j4.length:Int)+1+1)=(j4.length:Int)+1+1:=wrap64 (by omega) (by omega);have k:=λB=>qX (j4.length+1) B (by omega) (by omega)
   rw[h2]at k;simp only[agj,agm,agk]at k;have r1:(b.length+1)*16<=room:=by unfold room;omega
   have r2:b.length+1<=room:=by unfold room;omega
   obtain⟨t0,z0,hcB,hz⟩:=jU b;have hz:(z0=0∨t0=121∧z0=1)=True:=by simp[hz]
   have hlb:(b.map aX).length=b.length:=by simp
   rw[hb]at r1 r2 hlb;refine⟨λb' e=>?_,λ_ e=>by cases e⟩;injection e with e
   subst e;refine⟨by simp[hb],?_⟩;rw[aj];generalize (mu K).code _=FF;simp only[sH];rw[hcB];simp only[cT,bK,Po.cs,afo,afq]at k⊢;clear hl';simp[Bk,KL,aa,h1,w1,k,r1,r2,hz,hlb,hb])
  (λb hb=>by
   have h1:((((n.kids.l.drop 1).length:Nat):Int)+1<(n.kids.l.length:Int))=False:=by rw[hdl];simp;omega
   rw[aj];generalize (mu K).code _=FF;generalize (n.kids.l.drop 1).length=D at *
   simp only[cT,bK,Po.cs,afo,afq];simp[Bk,h1]) [] rfl
 have e:∀(l:List Int) (b:List Cd),iter (λ(b:List Cd) (x:Int)=>(.inl (b++[V x]):List Cd ⊕ Unit)) b l=.inl (b++l.map V):=λl=>by
  induction l with
  |nil=>intro b;simp[iter]
  |cons c l ih=>intro b;simp[iter,ih]
 rw[e]at key;simpa[cdB]using key.2
theorem Wp(n:Nd)(j3:Env)(he:Av j3 h.length 0)(hk:n.k=8)(hn:n.kids.l.length<=1000)(hn1:1<=n.kids.l.length)(V:Int->Cd)(w:Cd)
  (qX:∀(j:Nat) (B:Blk),1<=j->j<n.kids.l.length->(mu K).fn 102 [iV 0,iV 0,iV (j:Int),.ptr (h.length,1) 0,.ptr (h.length,0) 0,.ptr (h.length,2) 0] (cT p l neg n B::h)=some (.val (aX (V ((n.kids.l[j]?).getD 0))) (cT p l neg n B::h)))
  (lN:∀B,(mu K).fn 105 [iV 1,.lst (((n.kids.l.drop 1).map V).map aX),.ptr (h.length,1) 0] (cT p l neg n B::h)=some (.val (aX w) (cT p l neg n B::h))) :
  ∃j3' F',evC K (mu K) gi ⟨j3,cT p l neg n (.arr 0 0 false [])::h⟩=some (.ret,⟨j3',F'::h⟩)∧get j3' 6=aX w:=by
 obtain⟨g3,g5,g7,g8,g9,g10⟩:=he;have d0:(n.k=0)=False:=by simp[hk]
 have d1:(n.k=1)=False:=by simp[hk]
 have d2:(n.k=2)=False:=by simp[hk]
 have d6:(n.k=6)=False:=by simp[hk]
 have d7:(n.k=7)=False:=by simp[hk]
 have d8:(n.k=8)=True:=by simp[hk]
 obtain⟨jA,k,a9,a10⟩:=Pf p l neg h n hn hn1 V qX;obtain⟨t0,z0,hcB,hz⟩:=jU ((n.kids.l.drop 1).map V);rw[hcB]at k;have hlb:(((n.kids.l.drop 1).map V).map aX).length=((n.kids.l.drop 1).map V).length:=by simp
 generalize (n.kids.l.drop 1).map V=Q at *
 generalize Q.map aX=M at *
 simp only[cT,bK,Po.cs,afo,afq]at k lN⊢;simp[gi,KL,aa,g7,g8,g9,g10,d0,d1,d2,d6,d7,d8,k,a9,a10,hlb,lN]
theorem Pg(n:Nd)(ks:List Tr)(hks:n.kids.l=ks.map λk=>(k.i:Int))(hn:ks.length<=1000)(V:Tr->Cd)
  (qF:∀k∈ks,∀h,(mu K).fn 50 [bK p l,iV (k.i:Int),.bool neg] h=some (.val (aX (V k)) h)) :
  ∃j3,(mu K).code (.af 4 [3,5,7,9,10,127,128,129] Bl) ⟨[(3,.ptr (h.length,0) 0),(5,.ptr (h.length,1) 0),(7,.ptr (h.length,2) 0),(9,fnB h.length),(10,.own (h.length,3) 0),(127,n.kids.avS iV),(128,iV (n.kids.l.length:Int)),(129,iV 0)],cT p l neg n (.arr 0 0 false [])::h⟩ =
   some (.exit 3,⟨j3,cT p l neg n (cdB (ks.map V))::h⟩)∧get j3 7=.ptr (h.length,2) 0∧get j3 9=fnB h.length∧get j3 10=.own (h.length,3) (ks.map V).length:=by
 have hkl:n.kids.l.length=ks.length:=by rw[hks];simp
 have key:=aB (K:=K) (n:=4) (live:=[3,5,7,9,10,127,128,129]) (a:=Bl) (ρ:=Unit) (λ(b:List Cd) (x:Tr)=>.inl (b++[V x]))
  (λj4 b=>⟨[(3,.ptr (h.length,0) 0),(5,.ptr (h.length,1) 0),(7,.ptr (h.length,2) 0),(9,fnB h.length),(10,.own (h.length,3) b.length),(127,n.kids.avS iV),(128,iV (n.kids.l.length:Int)),(129,iV (j4.length:Int))],cT p l neg n (cdB b)::h⟩)
  (λj4 b=>b.length=j4.length)
  (λb o=>∃j3,o=some (.exit 3,⟨j3,cT p l neg n (cdB b)::h⟩)∧get j3 7=.ptr (h.length,2) 0∧get j3 9=fnB h.length∧get j3 10=.own (h.length,3) b.length)
  (λ_ _=>False) ks
  (λj4 x r b hl' hb=>by
   obtain⟨h1,h2,w1⟩:=aA hl' (by omega);have hp:j4.length<ks.length:=(aft.1 h2).1;have g2:n.kids.l[j4.length]?=some (x.i:Int):=by rw[hks,afy,h2];rfl
   have hix:=iaP iV 1 n.kids j4.length (x.i:Int) (by simpa using g2);have h1':((j4.length:Int)<(n.kids.l.length:Int))=True:=by rw[hkl];simp;omega
   have k:=qF x (afB h2);have r1:(b.length+1)*16<=room:=by unfold room;omega
   have r2:b.length+1<=room:=by unfold room;omega
   obtain⟨t0,z0,hcB,hz⟩:=jU b;have hz:(z0=0∨t0=121∧z0=1)=True:=by simp[hz]
   have hlb:(b.map aX).length=b.length:=by simp
   rw[hb]at r1 r2 hlb;have q1:=ak _ dI p.uses;have q2:=ak _ dz p.az;have q3:=ak _ bX p.nodes;have q4:=ak _ eo l;refine⟨λb' e=>?_,λ_ e=>by cases e⟩;injection e with e
   subst e;refine⟨by simp[hb],?_⟩;rw[aj];generalize (mu K).code _=FF;simp only[sH];rw[hcB];simp only[cT,bK,Po.cs,afo,afq]at k⊢;clear hl';simp[Bl,KL,aa,h1',hix,w1,k,r1,r2,hz,hlb,hb])
  (λb hb=>by
   rw[aj];generalize (mu K).code _=FF;simp only[cT,bK,Po.cs,afo,afq];simp[Bl,hkl]) [] rfl
 have e:∀(l:List Tr) (b:List Cd),iter (λ(b:List Cd) (x:Tr)=>(.inl (b++[V x]):List Cd ⊕ Unit)) b l=.inl (b++l.map V):=λl=>by
  induction l with
  |nil=>intro b;simp[iter]
  |cons c l ih=>intro b;simp[iter,ih]
 rw[e]at key;simpa[cdB]using key.2
theorem Wq(n:Nd)(j3:Env)(he:Av j3 h.length 0)(hk:n.k=3∨n.k=4∨n.k=5):∃j3',evC K (mu K) gi ⟨j3,cT p l neg n (.arr 0 0 false [])::h⟩=some (.norm,⟨j3',cT p l neg n (.arr 0 0 false [])::h⟩)∧Av j3' h.length 0:=by
 obtain⟨g3,g5,g7,g8,g9,g10⟩:=he;have d0:(n.k=0)=False:=by simp;omega
 have d1:(n.k=1)=False:=by simp;omega
 have d2:(n.k=2)=False:=by simp;omega
 have d6:(n.k=6)=False:=by simp;omega
 have d7:(n.k=7)=False:=by simp;omega
 have d8:(n.k=8)=False:=by simp;omega
 simp only[cT,bK,Po.cs,afo,afq];simp[gi,Av,g3,g5,g7,g8,g9,g10,d0,d1,d2,d6,d7,d8]
theorem Ph(n:Nd)(j3:Env)(he:Av j3 h.length 0)(hk:n.k=3∨n.k=4∨n.k=5)(ks:List Tr)(hks:n.kids.l=ks.map λk=>(k.i:Int))(hn:ks.length<=1000)(V:Tr->Cd)(w:Cd)
  (qF:∀k∈ks,∀h,(mu K).fn 50 [bK p l,iV (k.i:Int),.bool neg] h=some (.val (aX (V k)) h))
  (lN:∀B,(mu K).fn 105 [iV (if n.k=3 then (ks.length:Int) else if n.k=4 then 1 else n.num),.lst ((ks.map V).map aX),.ptr (h.length,1) 0] (cT p l neg n B::h)=some (.val (aX w) (cT p l neg n B::h))) :
  goF c50.res (evC K (mu K) (.seq vJ (.seq vK (.seq Bo Bp))) ⟨j3,cT p l neg n (.arr 0 0 false [])::h⟩)=some (.val (aX w) h):=by
 obtain⟨g3,g5,g7,g8,g9,g10⟩:=he;obtain⟨jA,k,a7,a9,a10⟩:=Pg p l neg h n ks hks hn V qF;obtain⟨t0,z0,hcB,hz⟩:=jU (ks.map V);rw[hcB]at k;have hlb:((ks.map V).map aX).length=(ks.map V).length:=by simp
 have hml:(ks.map V).length=ks.length:=by simp
 generalize ks.map V=Q at *
 generalize Q.map aX=M at *
 simp only[cT,bK,Po.cs,afo,afq]at k lN⊢;by_cases k3:n.k=3
 ·have d3:(n.k=3)=True:=by simp[k3]
  rw[if_pos k3]at lN;simp[vJ,vK,c50,KL,aa,g3,g5,g7,g9,g10,d3,k,a7,a9,a10,hlb,hml,lN]
 by_cases k4:n.k=4
 ·have d4:(n.k=4)=True:=by simp[k4]
  rw[if_neg k3,if_pos k4]at lN;simp[vJ,vK,c50,KL,aa,g3,g5,g7,g9,g10,k3,d4,k,a7,a9,a10,hlb,hml,lN]
 ·rw[if_neg k3,if_neg k4]at lN;simp[vJ,vK,Bo,Bp,c50,KL,aa,g3,g5,g7,g9,g10,k3,k4,k,a7,a9,a10,hlb,hml,lN]
end
def zPo:Po:=⟨[],⟨true,[]⟩,⟨true,[]⟩,⟨true,[]⟩,0,[],0,[]⟩
theorem aef(h:Heap):(mu K).fn 48 [.lst []] h=some (.val (.lst []) h):=by
 have hX:K.X 48 [.lst []] h=some (.val (.lst []) h):=rfl;rw[gp];simp[step,iY,hX]
theorem aeg(h:Heap):(mu K).fn 48 [.ay] h=some (.val .ay h):=by
 rw[aC (KXc _ _ _ (by decide) (by simp)) Y0 rfl (by simp[c48])];simp[c48]
theorem f48(s:Sl Us)(hs:s.l.length<=1000)(h:Heap):(mu K).fn 48 [s.avS Us.av] h=some (.val (s.avS Us.av) h):=by
 obtain⟨nl,l⟩:=s;cases l with
 |nil=>
  cases nl
  ·exact aef h
  ·exact aeg h
 |cons x l=>
  have e:Sl.avS Us.av ⟨nl,x::l⟩=.lst (x.av::l.map Us.av):=rfl;simp only[Io]at hs;have r1:(l.length+1)*32<=room:=by unfold room;omega
  have r2:l.length+1<=room:=by unfold room;omega
  rw[e];rw[aC (KXc _ _ _ (by decide) (by simp)) Y0 rfl (by simp[c48])];simp[c48,r1,r2]
theorem aeh(h:Heap):(mu K).fn 49 [.lst []] h=some (.val (.lst []) h):=by
 have hX:K.X 49 [.lst []] h=some (.val (.lst []) h):=rfl;rw[gp];simp[step,iY,hX]
theorem aei(h:Heap):(mu K).fn 49 [.ay] h=some (.val .ay h):=by
 rw[aC (KXc _ _ _ (by decide) (by simp)) Y1 rfl (by simp[c49])];simp[c49]
theorem f49(s:Sl Rf)(hs:s.l.length<=1000)(h:Heap):(mu K).fn 49 [s.avS Rf.av] h=some (.val (s.avS Rf.av) h):=by
 obtain⟨nl,l⟩:=s;cases l with
 |nil=>
  cases nl
  ·exact aeh h
  ·exact aei h
 |cons x l=>
  have e:Sl.avS Rf.av ⟨nl,x::l⟩=.lst (x.av::l.map Rf.av):=rfl;simp only[Io]at hs;have r1:(l.length+1)*32<=room:=by unfold room;omega
  have r2:l.length+1<=room:=by unfold room;omega
  rw[e];rw[aC (KXc _ _ _ (by decide) (by simp)) Y1 rfl (by simp[c49])];simp[c49,r1,r2]
theorem qY{ns:List Nd}{t:Tr}(h:IsT ns t):ns[t.i]?=some t.n∧t.n.kids.l=t.ks.map λk=>(k.i:Int):=by
 cases t with
 |nd i n ks=>exact⟨h.1,h.2.1⟩
theorem wh{us:List Us}{l:List Sc}{Q:Nd->Prop}{c:Cd}(h:Cst c∨NF us l Q c):GNe c:=λj5 ks e=>by
 subst e;rcases h with⟨b,e⟩|h
 ·cases b<;>simp[cB]at e
 ·intro e;have:=h.1;rw[e]at this;simp at this
theorem kW(fd:Nd->Pol.Fd)(neg:Bool):∀ks:List Tr,gq fd neg ks=ks.map (norm fd neg)
 | []=>rfl
 |t::ks=>by simp[gq,kW fd neg ks]
theorem Lh{ks:List Tr}{i:Nat}{t:Tr}(h:ks[i]?=some t):dY ks i=t.n:=by unfold dY;rw[h]
theorem Pj{α:Type}{l:List α}(h:l.length=1):∃a,l=[a]:=List.length_eq_one_iff.1 h
theorem Li(b:CC)(s:St):goS K (mu K) b (some (.ret,s))=some (.ret,s):=rfl
structure NOk (p:Po)(l:List Sc)(s:Tr):Prop where
 tree:Pol.IsT p.nodes.l s
 tw:Tw p.uses.l l s
 wf:WF s true
 len:s.subs.length<=1000
section
variable(p:Po)(hp:Sz p)(l:Sl Sc)(hl:okL l)(hr:bz p l.l=0)(hN:∀n∈p.nodes.l,wj n)
include hp hl hr hN
mutual
theorem f50:∀(s:Tr) (neg:Bool),NOk p l.l s->∀h:Heap,(mu K).fn 50 [bK p l,iV (s.i:Int),.bool neg] h=some (.val (aX (norm (au p.uses.l l.l) neg s)) h)
 |.nd i n ks,neg,⟨⟨hn,hk,hks⟩,⟨k0,k8,c2,c5,c6,c7,c8⟩,⟨hfm,hwf⟩,hlen⟩,h=>by
  have ihs:n.k<=5->∀t∈ks,∀(neg:Bool) (h:Heap),(mu K).fn 50 [bK p l,iV (t.i:Int),.bool neg] h=some (.val (aX (norm (au p.uses.l l.l) neg t)) h):=λh5=>
   aa8 ks hks (c5 h5) (by rw[decide_eq_true h5]at hwf;exact hwf) (by simp only[Tr.subs,Io]at hlen;omega)
  have hsl:(Tr.bL ks).length<=1000:=by simp only[Tr.subs,Io]at hlen;omega
  have hkl:n.kids.l.length=ks.length:=by rw[hk];simp
  have hkm:ks.length<=1000:=af3 (AP ks) hsl;obtain⟨f0,f1,f2,f3,f4,f5,f6⟩:=fH hfm;have node:∀t∈ks,p.nodes.l[t.i]?=some t.n:=λt ht=>(qY (Pol.qZ.1 hks t ht)).1
  have nm:∀t∈ks,wj t.n:=λt ht=>hN _ (afB (node t ht))
  have kid:∀(j:Nat) (t:Tr),ks[j]?=some t->n.kids.l[j]?=some (t.i:Int):=λj t e=>by rw[hk,afy,e];rfl
  have wnf:∀{j6:Int} {a b:Nd},Wt p.uses.l l.l j6 a b->Cst (values (au p.uses.l l.l) j6 a b)∨NF p.uses.l l.l (λ_=>True) (values (au p.uses.l l.l) j6 a b):=λw=>kX w (λ_=>trivial) (λ_=>trivial)
  obtain⟨j3,ka,he⟩:=aa9 p l neg h i n hn;have qX:∀(j6:Int) (hh:How j6) (i j:Nat) (t u:Tr),ks[i]?=some t->ks[j]?=some u->∀B,(mu K).fn 102 [iV j6,iV (i:Int),iV (j:Int),.ptr (h.length,1) 0,.ptr (h.length,0) 0,.ptr (h.length,2) 0] (cT p l neg n B::h) =
    some (.val (aX (values (au p.uses.l l.l) (sg neg j6) t.n u.n)) (cT p l neg n B::h)):=λj6 hh i j t u ht hu B=>by
   have hi:=(aft.1 ht).1;have hj:=(aft.1 hu).1;exact f102 p hp l hl hr neg n (h.length,1) (h.length,0) (h.length,2) (cT p l neg n B::h) (by simp) (by simp) (by simp) (by simp) (by simp) (by simp) j6 hh (i:Int) (j:Int) (by omega) (by omega) t.i u.i t.n u.n
    (by simpa using kid i t ht) (by simpa using kid j u hu) (node t (afB ht)) (node u (afB hu)) (nm t (afB ht)) (nm u (afB hu))
  have lN:∀(k:Int),0<=k∧k<=500000->∀(cs:List Cd),(∀c∈cs,GNe c)->Cd.sizes cs<=400000->∀B,(mu K).fn 105 [iV k,.lst (cs.map aX),.ptr (h.length,1) 0] (cT p l neg n B::h)=some (.val (aX (ofC neg k cs)) (cT p l neg n B::h)):=λk hk cs hg hs B=>by
   have:=f105 neg (h.length,1) (cT p l neg n B::h) (by simp) (by simp) k hk cs hg hs false;simpa using this
  rw[aC (KX _ _ _) adL Pk (by simp[c50])];have lO:evC K (mu K) (.seq Bn (.seq DZ (.seq D2 (.seq D5 (.seq D6 (.seq gi (.seq vJ (.seq vK (.seq Bo Bp))))))))) ⟨cI 0 [bK p l,iV (i:Int),.bool neg],[]::h⟩ =
    goS K (mu K) (.seq gi (.seq vJ (.seq vK (.seq Bo Bp)))) (evC K (mu K) (.seq Bn (.seq DZ (.seq D2 (.seq D5 D6)))) ⟨cI 0 [bK p l,iV (i:Int),.bool neg],[]::h⟩):=by
   simp only[dm];generalize evC K (mu K) Bn ⟨cI 0 [bK p l,iV (i:Int),.bool neg],[]::h⟩=s0;simp only[lQ]
  simp only[Tr.i];rw[lO,ka,bk,dm];have early:∀c:Cd,(∃j3' F',evC K (mu K) gi ⟨j3,cT p l neg n (.arr 0 0 false [])::h⟩=some (.ret,⟨j3',F'::h⟩)∧get j3' 6=aX c) ->
    goF c50.res (goS K (mu K) (.seq vJ (.seq vK (.seq Bo Bp))) (evC K (mu K) gi ⟨j3,cT p l neg n (.arr 0 0 false [])::h⟩))=some (.val (aX c) h):=by
   rintro c ⟨j3',F',k,g⟩;rw[k,Li];exact Ws j3' c g F' h
  unfold norm;by_cases e0:n.k=0
  ·rw[if_pos e0];have:=early _ (Pm p l neg h n _ j3 0 he (.inl e0));simpa[e0]using this
  rw[if_neg e0];by_cases e1:n.k=1
  ·rw[if_pos e1];have:=early _ (Pm p l neg h n _ j3 0 he (.inr e1));simpa[e1]using this
  rw[if_neg e1];by_cases e2:n.k=2
  ·rw[if_pos e2];obtain⟨t,rfl⟩:=Pj (c2 e2);exact early _ (Wu p l neg h n _ j3 0 he e2 t.i (kid 0 t rfl) _ (ihs (by omega) t (by simp) (!neg)))
  rw[if_neg e2];by_cases e6:n.k=6
  ·rw[if_pos e6];rw[e6]at f3;obtain⟨t,u,rfl⟩:=Td (show ks.length=2 by rw[<-hkl];simpa[aI]using f3);exact early _ (Wv p l neg h n _ j3 0 he e6 _ (λB=>qX n.num (c6 e6).1 0 1 t u rfl rfl B))
  rw[if_neg e6];by_cases e7:n.k=7
  ·rw[if_pos e7];rw[e7]at f3;obtain⟨t,u,v,rfl⟩:=Te (show ks.length=3 by rw[<-hkl];simpa[aI]using f3);obtain⟨w1,w2⟩:=c7 e7;have q0:dY [t,u,v] 0=t.n:=rfl;have q1:dY [t,u,v] 1=u.n:=rfl;have q2:dY [t,u,v] 2=v.n:=rfl;rw[q0,q1]at w1;rw[q0,q2]at w2;rw[q0,q1,q2];have hx:n.kids.l=[(t.i:Int),(u.i:Int),(v.i:Int)]:=by rw[hk];rfl
   by_cases c:neg=false∧t.n.k=9∧u.n.k=10∧v.n.k=10
   ·rw[if_pos c];exact early _ (Tf p l neg h n _ j3 0 he e7 c.1 t.i u.i v.i t.n u.n v.n hx (node t (by simp)) (node u (by simp)) (node v (by simp)) c.2.1 c.2.2.1 c.2.2.2 _ (λh=>f109 p hp l hl hr t.n _ _ h))
   ·rw[if_neg c];refine early _ (Tc p l neg h n _ j3 0 he e7 t.i u.i v.i t.n u.n v.n hx (node t (by simp)) (node u (by simp)) (node v (by simp)) c _ _ _ (λB=>qX 5 (by simp[How]) 0 1 t u rfl rfl B) (λB=>qX 3 (by simp[How]) 0 2 t v rfl rfl B) ?_);refine lN 2 (by omega) [_,_] (λc hc=>?_) ?_
    ·simp only[afp,afZ,or_false]at hc;rcases hc with rfl|rfl
     ·exact wh (wnf (w1.sg neg))
     ·exact wh (wnf (w2.sg neg))
    ·have a1:=dX (au p.uses.l l.l) (sg neg 5) t.n u.n;have a2:=dX (au p.uses.l l.l) (sg neg 3) t.n v.n;simp only[Cd.sizes];omega
  rw[if_neg e7];by_cases e8:n.k=8
  ·rw[if_pos e8];rw[e8]at f3;have h2:2<=ks.length:=by rw[<-hkl];simpa[aI]using f3
   obtain⟨t,ht⟩:∃t,ks[0]?=some t:=⟨ks[0],afD (by omega)⟩
   rw[Lh ht];have c8:=c8 e8;rw[Lh ht]at c8;have hV:(n.kids.l.drop 1).map (λx=>match p.nodes.l[x.toNat]? with|some b=>values (au p.uses.l l.l) (sg neg 0) t.n b|none=>cB true)=(ks.drop 1).map λu=>values (au p.uses.l l.l) (sg neg 0) t.n u.n:=by
    rw[hk,<-List.map_drop,af0];apply agY;intro u hu;simp only[Function.comp,afM];rw[node u (agD hu)]
   refine early _ (Wp p l neg h n j3 he e8 (by omega) (by omega) (λx=>match p.nodes.l[x.toNat]? with|some b=>values (au p.uses.l l.l) (sg neg 0) t.n b|none=>cB true) _ (λj B h1 h2=>?_) ?_)
   ·obtain⟨u,hu⟩:∃u,ks[j]?=some u:=⟨ks[j],afD (by omega)⟩
    have:=qX 0 (by simp[How]) 0 j t u ht hu B;rw[kid j u hu];simp only[agj,afM];rw[node u (afB hu)];exact this
   ·rw[hV];refine lN 1 (by omega) _ (λc hc=>?_) ?_
    ·obtain⟨u,hu,rfl⟩:=afG.1 hc;exact wh (wnf ((c8 u hu).sg neg))
    ·have a1:=sI (λu:Tr=>values (au p.uses.l l.l) (sg neg 0) t.n u.n) (λu=>dX _ _ _ _) (ks.drop 1);have a2:(ks.drop 1).length<=ks.length:=by simp
     omega
  rw[if_neg e8];have e5:n.k=3∨n.k=4∨n.k=5:=by omega
  have h5:n.k<=5:=by omega
  obtain⟨jA,k2,he2⟩:=Wq p l neg h n j3 he e5;rw[k2,bk];have hnf:∀c∈gq (au p.uses.l l.l) neg ks,GNe c:=λc hc=>wh (wm (Q:=λ_=>True) ks neg (c5 h5) (λ_ _ _ _ _=>trivial) c hc)
  have hsz:=pF (au p.uses.l l.l) ks neg;have wo:0<=(if n.k=3 then (ks.length:Int) else if n.k=4 then 1 else n.num)∧(if n.k=3 then (ks.length:Int) else if n.k=4 then 1 else n.num)<=500000:=by
   split
   ·omega
   split
   ·omega
   ·rename_i d3 d4;have d5:n.k=5:=by omega
    simp only[eP,cH,d5]at f5 f6;simp at f5 f6;omega
  have kk:=lN _ wo (gq (au p.uses.l l.l) neg ks) hnf (by omega);rw[kW]at kk;rw[Ph p l neg h n jA he2 e5 ks hk hkm (norm (au p.uses.l l.l) neg) _ (λk hk h=>ihs h5 k hk neg h) kk,kW];by_cases d3:n.k=3
  ·rw[if_pos d3,if_pos d3]
  by_cases d4:n.k=4
  ·rw[if_neg d3,if_pos d4,if_neg d3,if_pos d4]
  ·rw[if_neg d3,if_neg d4,if_neg d3,if_neg d4]
theorem aa8:∀(ts:List Tr),Pol.nR p.nodes.l ts->Tws p.uses.l l.l ts->WFs ts true->(Tr.bL ts).length<=1000->∀t∈ts,∀(neg:Bool) (h:Heap),(mu K).fn 50 [bK p l,iV (t.i:Int),.bool neg] h=some (.val (aX (norm (au p.uses.l l.l) neg t)) h)
 | [],_,_,_,_,t,ht,_,_=>by cases ht
 |s::ts,h1,h2,h3,h4,t,ht,neg,h=>by
  simp only[Tr.bL,afr]at h4;rcases afp.1 ht with e|ht
  ·rw[e];exact f50 s neg ⟨h1.1,h2.1,h3.1,by omega⟩ h
  ·exact aa8 ts h1.2 h2.2 h3.2 (by omega) t ht neg h
end
end
end Go.Ab.Pn
namespace Go.Ab.Pn
open Go.Ab.Pol
theorem AQ{us:List Us}{l:List Sc}{Q:Nd->Prop}{c:Cd}(h:Cst c∨NF us l Q c):GNr c:=by
 refine⟨wh h,λk n vs e=>?_⟩;subst e;rcases h with⟨b,e⟩|h
 ·cases b<;>simp[cB]at e<;>omega
 ·rcases h.2 with q|q<;>have:=q.1<;>omega
section
variable(p:Po)(hp:Sz p)(l:Sl Sc)(hl:okL l)(hr:bz p l.l=0)(hN:∀n∈p.nodes.l,wj n)(b0:Loc)
include hp hl hr hN
mutual
theorem f93:∀(s:Tr) (neg:Bool),NOk p l.l s->∀h:Heap,hget h b0=some (.box 181 false (bK p l))->b0.1<h.length->(mu K).fn 93 [.ptr b0 0,iV (s.i:Int),.bool neg] h=some (.val (bB (norm (au p.uses.l l.l) neg s)) h)
 |.nd i n ks,neg,⟨⟨hn,hk,hks⟩,⟨k0,k8,c2,c5,c6,c7,c8⟩,⟨hfm,hwf⟩,hlen⟩,h,hb,lb=>by
  have up:∀F,hget (F::h) b0=some (.box 181 false (bK p l)):=λF=>by simp only[hget];rw[if_neg (by omega)];exact hb
  have lup:∀F:List Blk,b0.1<(F::h).length:=λF=>by simp only[Io];omega
  have ihs:n.k<=5->∀t∈ks,∀(neg:Bool) (h:Heap),hget h b0=some (.box 181 false (bK p l))->b0.1<h.length->(mu K).fn 93 [.ptr b0 0,iV (t.i:Int),.bool neg] h=some (.val (bB (norm (au p.uses.l l.l) neg t)) h):=λh5=>
   aba ks hks (c5 h5) (by rw[decide_eq_true h5]at hwf;exact hwf) (by simp only[Tr.subs,Io]at hlen;omega)
  have hsl:(Tr.bL ks).length<=1000:=by simp only[Tr.subs,Io]at hlen;omega
  have hkl:n.kids.l.length=ks.length:=by rw[hk];simp
  have hkm:ks.length<=1000:=af3 (AP ks) hsl;obtain⟨f0,f1,f2,f3,f4,f5,f6⟩:=fH hfm;have node:∀t∈ks,p.nodes.l[t.i]?=some t.n:=λt ht=>(qY (Pol.qZ.1 hks t ht)).1
  have nm:∀t∈ks,wj t.n:=λt ht=>hN _ (afB (node t ht))
  have kid:∀(j:Nat) (t:Tr),ks[j]?=some t->n.kids.l[j]?=some (t.i:Int):=λj t e=>by rw[hk,afy,e];rfl
  have hfd:∀n,FdV (au p.uses.l l.l n):=λn=>by obtain⟨q1,q2,q3,q4⟩:=FH (p:=p) (gU hr).sch n;exact⟨by omega,by omega⟩
  have wnf:∀{j6:Int} {a b:Nd},Wt p.uses.l l.l j6 a b->Cst (values (au p.uses.l l.l) j6 a b)∨NF p.uses.l l.l (λ_=>True) (values (au p.uses.l l.l) j6 a b):=λw=>kX w (λ_=>trivial) (λ_=>trivial)
  obtain⟨j3,ka,he⟩:=abb p l neg b0 h hb lb i n hn;have k82:∀(j6:Int) (t u:Tr),t∈ks->u∈ks->Wt p.uses.l l.l (sg neg j6) t.n u.n->∀B,(mu K).fn 146 [.ptr b0 0,iV (sg neg j6),t.n.av,u.n.av] (F52 n B::h) =
    some (.val (bB (values (au p.uses.l l.l) (sg neg j6) t.n u.n)) (F52 n B::h)):=λj6 t u ht hu w B=>by
   rw[f146 p hp l hl b0 (F52 n B::h) hr (sg neg j6) w.1 t.n u.n (nm t ht) (nm u hu) (up _) (lup _),JF hfd w]
  have k86:∀(k:Int),-1000000<=k∧k<=1000000->∀(cs:List Cd),(∀c∈cs,GNr c)->Cd.sizes cs<=400000->∀B,(mu K).fn 150 [iV k,.lst (cs.map bB)] (F52 n B::h)=some (.val (bB (thr k cs)) (F52 n B::h)):=λk hk cs hg hs B=>by
   have:=f150 k hk cs hg (by omega) false (F52 n B::h);simpa using this
  rw[aC (KX _ _ _) adW Pp (by simp[c93])];have lO:evC K (mu K) (.seq BG (.seq D8 (.seq D9 (.seq fN (.seq qm (.seq qo (.seq qp (.seq qq (.seq qB (.seq qC kG)))))))))) ⟨cI 0 [.ptr b0 0,iV (i:Int),.bool neg],[]::h⟩ =
    goS K (mu K) (.seq fN (.seq qm (.seq qo (.seq qp (.seq qq (.seq qB (.seq qC kG))))))) (evC K (mu K) (.seq BG (.seq D8 D9)) ⟨cI 0 [.ptr b0 0,iV (i:Int),.bool neg],[]::h⟩):=by
   simp only[dm];generalize evC K (mu K) BG ⟨cI 0 [.ptr b0 0,iV (i:Int),.bool neg],[]::h⟩=s0;simp only[lQ]
  simp only[Tr.i];rw[lO,ka,bk,dm];have early:∀c:Cd,(∃j3' F',evC K (mu K) fN ⟨j3,F52 n (.arr 0 0 false [])::h⟩=some (.ret,⟨j3',(.box 185 false (bB c)::F')::h⟩)∧get j3' 6=.ptr (h.length,0) 0) ->
    goF c93.res (goS K (mu K) (.seq qm (.seq qo (.seq qp (.seq qq (.seq qB (.seq qC kG)))))) (evC K (mu K) fN ⟨j3,F52 n (.arr 0 0 false [])::h⟩))=some (.val (bB c) h):=by
   rintro c ⟨j3',F',k,g⟩;rw[k,Li];exact abc j3' c F' h g
  unfold norm;by_cases e0:n.k=0
  ·rw[if_pos e0];have:=early _ (Pq neg b0 h n _ j3 0 he (.inl e0));simpa[e0]using this
  rw[if_neg e0];by_cases e1:n.k=1
  ·rw[if_pos e1];have:=early _ (Pq neg b0 h n _ j3 0 he (.inr e1));simpa[e1]using this
  rw[if_neg e1];by_cases e2:n.k=2
  ·rw[if_pos e2];obtain⟨t,rfl⟩:=Pj (c2 e2);exact early _ (Ww neg b0 h n _ j3 0 he e2 t.i (kid 0 t rfl) _ (λB=>ihs (by omega) t (by simp) (!neg) _ (up _) (lup _)))
  rw[if_neg e2];by_cases e6:n.k=6
  ·rw[if_pos e6];rw[e6]at f3;obtain⟨t,u,rfl⟩:=Td (show ks.length=2 by rw[<-hkl];simpa[aI]using f3);exact early _ (Wx p l neg b0 h hb lb n _ j3 0 he e6 (c6 e6).1 t.i u.i t.n u.n (kid 0 t rfl) (kid 1 u rfl) (node t (by simp)) (node u (by simp)) _ (k82 n.num t u (by simp) (by simp) ((c6 e6).sg neg)))
  rw[if_neg e6];by_cases e7:n.k=7
  ·rw[if_pos e7];rw[e7]at f3;obtain⟨t,u,v,rfl⟩:=Te (show ks.length=3 by rw[<-hkl];simpa[aI]using f3);obtain⟨w1,w2⟩:=c7 e7;have q0:dY [t,u,v] 0=t.n:=rfl;have q1:dY [t,u,v] 1=u.n:=rfl;have q2:dY [t,u,v] 2=v.n:=rfl;rw[q0,q1]at w1;rw[q0,q2]at w2;rw[q0,q1,q2];have hx:n.kids.l=[(t.i:Int),(u.i:Int),(v.i:Int)]:=by rw[hk];rfl
   by_cases c:neg=false∧t.n.k=9∧u.n.k=10∧v.n.k=10
   ·rw[if_pos c];exact early _ (Tg p l neg b0 h hb lb n _ j3 0 he e7 c.1 t.i u.i v.i t.n u.n v.n hx (node t (by simp)) (node u (by simp)) (node v (by simp)) c.2 _ (λB=>f149 p hp l hl b0 t.n _ _ _ (up _) (lup _)))
   ·rw[if_neg c];refine early _ (Ti p l neg b0 h hb lb n j3 he e7 t.i u.i v.i t.n u.n v.n hx (node t (by simp)) (node u (by simp)) (node v (by simp)) c _ _ _ (k82 5 t u (by simp) (by simp) (w1.sg neg)) (k82 3 t v (by simp) (by simp) (w2.sg neg)) ?_);have e12:(if neg=true then ((([values (au p.uses.l l.l) (sg neg 5) t.n u.n,values (au p.uses.l l.l) (sg neg 3) t.n v.n]:List Cd).length:Int)-2+1) else 2)=(if neg=true then 1 else 2):=by cases neg<;>rfl
    unfold ofC;rw[e12];refine k86 _ (by split<;>omega) [_,_] (λc hc=>?_) ?_
    ·simp only[afp,afZ,or_false]at hc;rcases hc with rfl|rfl
     ·exact AQ (wnf (w1.sg neg))
     ·exact AQ (wnf (w2.sg neg))
    ·have a1:=dX (au p.uses.l l.l) (sg neg 5) t.n u.n;have a2:=dX (au p.uses.l l.l) (sg neg 3) t.n v.n;simp only[Cd.sizes];omega
  rw[if_neg e7];by_cases e8:n.k=8
  ·rw[if_pos e8];rw[e8]at f3;have h2:2<=ks.length:=by rw[<-hkl];simpa[aI]using f3
   obtain⟨t,ht⟩:∃t,ks[0]?=some t:=⟨ks[0],afD (by omega)⟩
   rw[Lh ht];have c8:=c8 e8;rw[Lh ht]at c8;have hall:∀x∈n.kids.l,∃(j:Nat) (b:Nd),x=(j:Int)∧p.nodes.l[j]?=some b:=λx hx=>by
    rw[hk]at hx;obtain⟨u,hu,rfl⟩:=afG.1 hx;exact⟨u.i,u.n,rfl,node u hu⟩
   have hV:(n.kids.l.drop 1).map (λx=>match p.nodes.l[x.toNat]? with|some b=>values (au p.uses.l l.l) (sg neg 0) t.n b|none=>cB true)=(ks.drop 1).map λu=>values (au p.uses.l l.l) (sg neg 0) t.n u.n:=by
    rw[hk,<-List.map_drop,af0];apply agY;intro u hu;simp only[Function.comp,afM];rw[node u (agD hu)]
   refine early _ (Wy p l neg b0 h hb lb n j3 he e8 (by omega) (by omega) t.i t.n (kid 0 t ht) (node t (afB ht)) hall (λx=>match p.nodes.l[x.toNat]? with|some b=>values (au p.uses.l l.l) (sg neg 0) t.n b|none=>cB true) _ (λj b B hj hbj=>?_) ?_)
   ·rw[hk,<-List.map_drop]at hj;obtain⟨u,hu,e⟩:=afG.1 hj;have ej:u.i=j:=by exact_mod_cast e
    have nu:=node u (agD hu);rw[ej,hbj]at nu;injection nu with nu
    subst nu;simp only[afM];rw[hbj];exact k82 0 t u (afB ht) (agD hu) ((c8 u hu).sg neg) B
   ·rw[hV];have hvl:((ks.drop 1).map λu=>values (au p.uses.l l.l) (sg neg 0) t.n u.n).length=(ks.drop 1).length:=by simp
    have e12:(if neg=true then ((((ks.drop 1).map λu=>values (au p.uses.l l.l) (sg neg 0) t.n u.n).length:Nat):Int) else 1)=(if neg=true then ((((ks.drop 1).map λu=>values (au p.uses.l l.l) (sg neg 0) t.n u.n).length:Nat):Int)-1+1 else 1):=by rw[Int.sub_add_cancel]
    rw[e12];unfold ofC;have a2:(ks.drop 1).length<=ks.length:=by simp
    refine k86 _ (by rw[hvl];split<;>omega) _ (λc hc=>?_) ?_
    ·obtain⟨u,hu,rfl⟩:=afG.1 hc;exact AQ (wnf ((c8 u hu).sg neg))
    ·have a1:=sI (λu:Tr=>values (au p.uses.l l.l) (sg neg 0) t.n u.n) (λu=>dX _ _ _ _) (ks.drop 1);omega
  rw[if_neg e8];have e5:n.k=3∨n.k=4∨n.k=5:=by omega
  have h5:n.k<=5:=by omega
  obtain⟨jA,k2,he2⟩:=Wz neg b0 h n j3 he e5;rw[k2,bk];have hnf:∀c∈gq (au p.uses.l l.l) neg ks,GNr c:=λc hc=>AQ (wm (Q:=λ_=>True) ks neg (c5 h5) (λ_ _ _ _ _=>trivial) c hc)
  have hsz:=pF (au p.uses.l l.l) ks neg;obtain⟨k0,hk0⟩:∃k0,k0=if n.k=3 then (ks.length:Int) else if n.k=4 then 1 else n.num:=⟨_,rfl⟩
  have wo:0<=k0∧k0<=500000:=by
   rw[hk0];split
   ·omega
   split
   ·omega
   ·rename_i d3 d4;have d5:n.k=5:=by omega
    simp only[eP,cH,d5]at f5 f6;simp at f5 f6;omega
  have hnl:(gq (au p.uses.l l.l) neg ks).length=ks.length:=by rw[kW];simp
  have kk:=k86 (if neg=true then (ks.length:Int)-k0+1 else k0) (by split<;>omega) (gq (au p.uses.l l.l) neg ks) hnf (by omega);rw[kW]at kk;rw[Pr neg b0 h n jA he2 e5 ks hk hkm (norm (au p.uses.l l.l) neg) _ k0 hk0 wo (λk hk B=>ihs h5 k hk neg _ (up _) (lup _)) kk,<-kW];have fin:∀kq,kq=k0->bB (thr (if neg=true then (ks.length:Int)-k0+1 else k0) (gq (au p.uses.l l.l) neg ks))=bB (ofC neg kq (gq (au p.uses.l l.l) neg ks)):=λkq e=>by
   unfold ofC;rw[e,hnl]
  by_cases d3:n.k=3
  ·rw[if_pos d3]at hk0;rw[if_pos d3,fin _ hk0.symm]
  by_cases d4:n.k=4
  ·rw[if_neg d3,if_pos d4]at hk0;rw[if_neg d3,if_pos d4,fin _ hk0.symm]
  ·rw[if_neg d3,if_neg d4]at hk0;rw[if_neg d3,if_neg d4,fin _ hk0.symm]
theorem aba:∀(ts:List Tr),Pol.nR p.nodes.l ts->Tws p.uses.l l.l ts->WFs ts true->(Tr.bL ts).length<=1000->∀t∈ts,∀(neg:Bool) (h:Heap),hget h b0=some (.box 181 false (bK p l))->b0.1<h.length->(mu K).fn 93 [.ptr b0 0,iV (t.i:Int),.bool neg] h=some (.val (bB (norm (au p.uses.l l.l) neg t)) h)
 | [],_,_,_,_,t,ht,_,_,_,_=>by cases ht
 |s::ts,h1,h2,h3,h4,t,ht,neg,h,hb,lb=>by
  simp only[Tr.bL,afr]at h4;rcases afp.1 ht with e|ht
  ·rw[e];exact f93 s neg ⟨h1.1,h2.1,h3.1,by omega⟩ h hb lb
  ·exact aba ts h1.2 h2.2 h3.2 (by omega) t ht neg h hb lb
end
end
end Go.Ab.Pn
namespace Go.Ab.Pn
open Go.Ab.Pol
abbrev ndQ(ns:List Nd):Blk:=.arq 90 6 4 3 1 [] (ns.map Nd.av)
abbrev Ca(k num:Int)(vs:List Nd):AV:=.agg [iV k,iV num,.str [],.str [],.ay,iV 0,Sl.avS Nd.av ⟨true,vs⟩]
def atN(N:List Nd)(k num:Int)(j4:List Nd):List Nd:=N++br N.length k num j4.length::j4.map aM
theorem FI(N:List Nd)(k num:Int)(j4:List Nd):(atN N k num j4).length=N.length+1+j4.length:=by simp[atN];omega
theorem Lj(b n:Nat):(upI b n).length=n:=by simp[upI]
theorem Pv(b n:Nat):upI b (n+1)=upI b n++[((b+n:Nat):Int)]:=by simp[upI,agK]
theorem G7(b n:Nat):upI b (n+1)=(b:Int)::upI (b+1) n:=by
 simp only[upI,List.range_succ_eq_map,afj,af0,af1]
 congr 1
 apply agY;intro j _;simp only[Function.comp];omega
theorem Ll(N:List Nd)(k num:Int)(j4:List Nd):((atN N k num j4).map Nd.av)[N.length]?=some (br N.length k num j4.length).av:=by
 unfold atN;rw[afE,afT (by simp)];simp
theorem Lm(N:List Nd)(k num:Int)(j4:List Nd)(x:Nd):((atN N k num j4).map Nd.av).set N.length (br N.length k num (j4.length+1)).av++[(aM x).av]=(atN N k num (j4++[x])).map Nd.av:=by
 unfold atN;rw[afE,agZ _ _ (by simp)];simp
theorem G8(x:Nd):(aM x).av=.agg [iV x.k,iV x.num,.str x.nm,.str x.attr,.ay,iV 0]:=by simp[aM,Sl.avS,lv]
theorem jB(b:Nat)(k num:Int):(br b k num 0).av=.agg [iV k,iV num,.str [],.str [],.ay,iV 0]:=by simp[br,upI,Sl.avS,lv]
theorem nS(b:Nat)(k num:Int)(n:Nat):(br b k num (n+1)).av=.agg [iV k,iV num,.str [],.str [],.lst (iV ((b:Int)+1)::(upI (b+2) n).map iV),iV 0]:=by
 simp[br,G7,Sl.avS,lv]
theorem Ed(b:Nat)(k num:Int)(n:Nat):(br b k num (n+1+1)).av=.agg [iV k,iV num,.str [],.str [],.lst (iV ((b:Int)+1)::((upI (b+2) n).map iV++[iV ((b:Int)+1+((n:Int)+1))])),iV 0]:=by
 rw[nS,Pv,afE];have e:(((b+2+n:Nat):Int))=(b:Int)+1+((n:Int)+1):=by omega
 rw[afj,afw,e]
theorem jP{α:Type}{M:List α}{i:Nat}{v:α}(h:M[i]?=some v):∀hh,M[i]'hh=v:=λhh=>by
 have:=afD hh;rw[h]at this;injection this with this
 exact this.symm
theorem WA(k num:Int)(N vs:List Nd)(hN:N.length<=100000)(hv:vs.length<=1000)(h:Heap)(a:Loc)(hd:dom h a) :
  ∃j3,(mu K).code (.af 1 [1,5,16,17,18] ij) ⟨[(1,.own a (N.length+1)),(5,iV (N.length:Int)),(16,Sl.avS Nd.av ⟨true,vs⟩),(17,iV (vs.length:Int)),(18,iV 0)],[.box 252 false (Ca k num vs)]::aQ h a (ndQ (atN N k num []))⟩ =
   some (.exit 0,⟨j3,[.box 252 false (Ca k num vs)]::aQ h a (ndQ (atN N k num vs))⟩)∧get j3 1=.own a (N.length+1+vs.length):=by
 have key:=aB (K:=K) (n:=1) (live:=[1,5,16,17,18]) (a:=ij) (ρ:=Unit) (λ(_:Unit) (x:Nd)=>(.inl ():Unit ⊕ Unit))
  (λj4 _=>⟨[(1,.own a (N.length+1+j4.length)),(5,iV (N.length:Int)),(16,Sl.avS Nd.av ⟨true,vs⟩),(17,iV (vs.length:Int)),(18,iV (j4.length:Int))],[.box 252 false (Ca k num vs)]::aQ h a (ndQ (atN N k num j4))⟩)
  (λ_ _=>True)
  (λ_ o=>∃j3,o=some (.exit 0,⟨j3,[.box 252 false (Ca k num vs)]::aQ h a (ndQ (atN N k num vs))⟩)∧get j3 1=.own a (N.length+1+vs.length))
  (λ_ _=>False) vs
  (λj4 x r b hl' hb=>by
   obtain⟨h1,h2,w1⟩:=aA hl' (by omega);have hp:j4.length<vs.length:=(aft.1 h2).1;have hix:=iaP Nd.av 6 (⟨true,vs⟩) j4.length x (by simpa using h2);have qx:=ak _ aP x.kids;have hE:=Ll N k num j4;have hS:=Lm N k num j4 x;have hEl:((atN N k num j4).map Nd.av).length=N.length+1+j4.length:=by rw[afv,FI]
   have r1:(N.length+1+j4.length+1)*80<=room:=by unfold room;omega
   have r2:N.length+1+j4.length+1<=room:=by unfold room;omega
   have r3:(j4.length+1)*8<=room:=by unfold room;omega
   have r4:j4.length+1<=room:=by unfold room;omega
   have i1:((N.length:Int)<(N.length:Int)+1+(j4.length:Int))=True:=by simp;omega
   have i2:(N.length<N.length+1+j4.length)=True:=by simp;omega
   have n1:=pG hd;have gs:=λB=>fq hd B
   have ss:=λB C=>cO h a B C
   have hl:=λB=>bp h a B
   have pl:(j4++[x]).length=j4.length+1:=by simp
   refine⟨λb' e=>⟨trivial,?_⟩,λ_ e=>by cases e⟩;rw[aj];generalize (mu K).code _=FF;rw[G8]at hS;rw[pl];simp only[ndQ];rw[<-hS];cases hj:j4.length with
   |zero=>
    rw[hj]at hE hS hix h1 w1 hEl r1 r2 r3 r4 i1 i2;rw[jB]at hE;rw[nS];simp only[af1,afl,Int.add_zero,agE,afu]at hE hix h1 w1 hEl r1 r2 r3 r4 i1 i2;have e0:upI (N.length+2) 0=[]:=rfl;have z1:(0<vs.length)=True:=eq_true (by omega);rw[e0];generalize (atN N k num j4).map Nd.av=E at *
    have hE2:=jP hE;clear hl' hS;simp[ij,z1,hix,w1,hE2,hEl,r1,r2,r3,r4,i1,i2,n1,gs,ss,hl]
   |succ j=>
    rw[hj]at hE hS hix h1 w1 hEl r1 r2 r3 r4 i1 i2;rw[nS]at hE;rw[Ed];have p1:(0<N.length+1+(j+1))=True:=eq_true (by omega);have ul:((upI (N.length+2) j).map iV).length=j:=by rw[afv,Lj]
    simp only[agm,agk]at hix h1 w1 i1;generalize (upI (N.length+2) j).map iV=U at *
    generalize (atN N k num j4).map Nd.av=E at *
    have hE2:=jP hE;clear hl' hS;simp[ij,h1,hix,w1,hE2,hEl,r1,r2,r3,r4,i1,i2,p1,ul,n1,gs,ss,hl];rfl)
  (λb hb=>by
   have n1:=pG hd;have gs:=λB=>fq hd B
   have ss:=λB C=>cO h a B C
   have hl:=λB=>bp h a B
   rw[aj];generalize (mu K).code _=FF;simp[ij]) () trivial
 have e:iter (λ(_:Unit) (x:Nd)=>(.inl ():Unit ⊕ Unit)) () vs=.inl ():=by
  generalize vs=l
  induction l with
  |nil=>rfl
  |cons x l ih=>simpa[iter]using ih
 rw[e]at key;simpa using key.2
theorem WB(k num:Int)(N vs:List Nd)(hN:N.length<=100000)(hv:vs.length<=1000)(h:Heap) :
  ∃j3,(mu K).code (.af 2 [1,5,16,17,18] ij) ⟨[(1,.own (h.length,1) (N.length+1)),(5,iV (N.length:Int)),(16,Sl.avS Nd.av ⟨true,vs⟩),(17,iV (vs.length:Int)),(18,iV 0)],[.box 252 false (Ca k num vs),ndQ (atN N k num [])]::h⟩ =
   some (.exit 0,⟨j3,[.box 252 false (Ca k num vs),ndQ (atN N k num vs)]::h⟩)∧get j3 1=.own (h.length,1) (N.length+1+vs.length):=by
 have key:=aB (K:=K) (n:=2) (live:=[1,5,16,17,18]) (a:=ij) (ρ:=Unit) (λ(_:Unit) (x:Nd)=>(.inl ():Unit ⊕ Unit))
  (λj4 _=>⟨[(1,.own (h.length,1) (N.length+1+j4.length)),(5,iV (N.length:Int)),(16,Sl.avS Nd.av ⟨true,vs⟩),(17,iV (vs.length:Int)),(18,iV (j4.length:Int))],[.box 252 false (Ca k num vs),ndQ (atN N k num j4)]::h⟩)
  (λ_ _=>True)
  (λ_ o=>∃j3,o=some (.exit 0,⟨j3,[.box 252 false (Ca k num vs),ndQ (atN N k num vs)]::h⟩)∧get j3 1=.own (h.length,1) (N.length+1+vs.length))
  (λ_ _=>False) vs
  (λj4 x r b hl' hb=>by
   obtain⟨h1,h2,w1⟩:=aA hl' (by omega);have hp:j4.length<vs.length:=(aft.1 h2).1;have hix:=iaP Nd.av 6 (⟨true,vs⟩) j4.length x (by simpa using h2);have qx:=ak _ aP x.kids;have hE:=Ll N k num j4;have hS:=Lm N k num j4 x;have hEl:((atN N k num j4).map Nd.av).length=N.length+1+j4.length:=by rw[afv,FI]
   have r1:(N.length+1+j4.length+1)*80<=room:=by unfold room;omega
   have r2:N.length+1+j4.length+1<=room:=by unfold room;omega
   have r3:(j4.length+1)*8<=room:=by unfold room;omega
   have r4:j4.length+1<=room:=by unfold room;omega
   have i1:((N.length:Int)<(N.length:Int)+1+(j4.length:Int))=True:=by simp;omega
   have i2:(N.length<N.length+1+j4.length)=True:=by simp;omega
   have pl:(j4++[x]).length=j4.length+1:=by simp
   refine⟨λb' e=>⟨trivial,?_⟩,λ_ e=>by cases e⟩;rw[aj];generalize (mu K).code _=FF;rw[G8]at hS;rw[pl];simp only[ndQ];rw[<-hS];cases hj:j4.length with
   |zero=>
    rw[hj]at hE hS hix h1 w1 hEl r1 r2 r3 r4 i1 i2;rw[jB]at hE;rw[nS];simp only[af1,afl,Int.add_zero,agE,afu]at hE hix h1 w1 hEl r1 r2 r3 r4 i1 i2;have e0:upI (N.length+2) 0=[]:=rfl;have z1:(0<vs.length)=True:=eq_true (by omega);rw[e0];generalize (atN N k num j4).map Nd.av=E at *
    have hE2:=jP hE;clear hl' hS;simp[ij,z1,hix,w1,hE2,hEl,r1,r2,r3,r4,i1,i2]
   |succ j=>
    rw[hj]at hE hS hix h1 w1 hEl r1 r2 r3 r4 i1 i2;rw[nS]at hE;rw[Ed];have p1:(0<N.length+1+(j+1))=True:=eq_true (by omega);have ul:((upI (N.length+2) j).map iV).length=j:=by rw[afv,Lj]
    simp only[agm,agk]at hix h1 w1 i1;generalize (upI (N.length+2) j).map iV=U at *
    generalize (atN N k num j4).map Nd.av=E at *
    have hE2:=jP hE;clear hl' hS;simp[ij,h1,hix,w1,hE2,hEl,r1,r2,r3,r4,i1,i2,p1,ul];rfl)
  (λb hb=>by
   rw[aj];generalize (mu K).code _=FF;simp[ij]) () trivial
 have e:iter (λ(_:Unit) (x:Nd)=>(.inl ():Unit ⊕ Unit)) () vs=.inl ():=by
  generalize vs=l
  induction l with
  |nil=>rfl
  |cons x l ih=>simpa[iter]using ih
 rw[e]at key;simpa using key.2
theorem G9(N:List Nd)(k num:Int)(vs:List Nd):atN N k num vs=N++flat N.length (.atom k num vs):=by simp[atN,flat]
theorem abd(k num:Int)(N vs:List Nd)(hN:1<=N.length∧N.length<=100000)(hv:vs.length<=1000)(h:Heap)(a:Loc)(ha:hget h a=some (ndQ N)) :
  (mu K).fn 277 [Ca k num vs,.own a N.length] h=some (.val (.own a (N.length+1+vs.length)) (aQ h a (ndQ (N++flat N.length (.atom k num vs))))):=by
 have hd:=gL ha;obtain⟨j3,kl,g1⟩:=WA k num N vs (by omega) hv h a hd;have n1:=pG hd;have e0:(atN N k num []).map Nd.av=N.map Nd.av++[.agg [iV k,iV num,.str [],.str [],.ay,iV 0]]:=by
  simp[atN,jB]
 have r1:(N.length+1)*80<=room:=by unfold room;omega
 have r2:N.length+1<=room:=by unfold room;omega
 have p1:(0<N.length)=True:=eq_true (by omega);have hNl:(N.map Nd.av).length=N.length:=by simp
 have dl:=hN.1;have ll:=eD hd;rw[<-G9];simp only[ndQ]at kl ha⊢;rw[e0]at kl;rw[aC (KX _ _ _) U6 rfl (by simp[OY])];generalize N.map Nd.av=M at *
 generalize (atN N k num vs).map Nd.av=M2 at *
 simp[OY,ha,n1,r1,r2,p1,hNl,kl,g1,ll]
theorem abe(k num:Int)(vs:List Nd)(hv:vs.length<=1000)(h:Heap) :
  (mu K).fn 277 [Ca k num vs,.ay] h=some (.val (.lst ((flat 0 (.atom k num vs)).map Nd.av)) h):=by
 obtain⟨j3,kl,g1⟩:=WB k num [] vs (by simp) hv h;have e0:(atN [] k num []).map Nd.av=[.agg [iV k,iV num,.str [],.str [],.ay,iV 0]]:=by
  simp[atN,jB]
 have e1:flat 0 (.atom k num vs)=atN [] k num vs:=by rw[G9];rfl
 have r1:80<=room:=by unfold room;omega
 have r2:1<=room:=by unfold room;omega
 rw[e1];have ml:((atN [] k num vs).map Nd.av).length=1+vs.length:=by rw[afv,FI];simp
 simp only[ndQ]at kl⊢;rw[e0]at kl;simp only[iO,afu,afl]at kl g1;rw[aC (KX _ _ _) U6 rfl (by simp[OY])];generalize (atN [] k num vs).map Nd.av=M2 at *
 simp[OY,r1,r2,kl,g1,ml]
