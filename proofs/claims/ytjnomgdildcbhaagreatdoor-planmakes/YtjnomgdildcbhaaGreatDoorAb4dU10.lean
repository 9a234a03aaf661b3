/-
  The formula of the root.
-/
import Derived.Test.YtjnomgdildcbhaaGreatDoorAb4dS30
import Derived.Test.YtjnomgdildcbhaaGreatDoorAb4dU3
set_option linter.all false
set_option maxRecDepth 100000
set_option maxHeartbeats 4000000
namespace Go.Ab.Pn
open Go.Ab.Pol
def oA:Option Fm->AV
 |none=>.agg [.ay]
 |some f=>fA f
def cM(b0:Nat):Cd->Nd
 |.atom k num vs=>br b0 k num vs.length
 |.gate j5 ks=>cj b0 j5 ks
theorem xY(b0:Nat)(c:Cd):(flat b0 c)[0]?=some (cM b0 c):=by cases c<;>rfl
theorem wE{ns:List Nd}{b0:Nat}{c:Cd}(h:At ns b0 (flat b0 c)):ns[b0]?=some (cM b0 c):=by
 have:=h 0 _ (xY b0 c);simpa using this
section
variable{us:List Us}{l:List Sc}(nodes:Sl Nd)(j0:List Rf)(Q:Nd->Prop)(hQ:∀v,Q v->Q (aM v))(b am aL sL:Loc)(D C:AV)
include hQ
theorem f88(c:Cd)(b0:Nat)(hc:NF us l Q c)(hat:At nodes.l b0 (flat b0 c))(h:Heap)(m:Pls nodes (au us l) j0 Q h b am aL sL)(A S:List Pt)(hS:S.length<=90000) :
  (mu K).fn 88 [.ptr b 0,(cM b0 c).av] (bG nodes h b am aL sL D C A S)=some (.val (.bool (bH j0 (au us l) c).isSome) (bG nodes h b am aL sL D C A (S++(bH j0 (au us l) c).toList))):=by
 cases c with
 |gate j5 ks=>
  have:=JR nodes j0 Q h b am aL sL D C m (cM b0 (.gate j5 ks)) (by simp[cM,cj]) A S;simpa[bH]using this
 |atom k num vs=>
  by_cases hk:k=7
  case neg=>
   have:=JR nodes j0 Q h b am aL sL D C m (cM b0 (.atom k num vs)) (by simpa[cM,br]using hk) A S;simpa[bH,hk]using this
  subst hk;obtain⟨a0,a1⟩:=gA hat;obtain⟨qv,hA⟩:=id hc;rcases hA with⟨q,_⟩|⟨_,rfl,x,lo,hi,rfl,kx,hv,e⟩
  ·exact absurd q (by decide)
  obtain⟨w1,w2,w3⟩:=mo e;obtain⟨_,x1,x2,x3,x4⟩:=m.hf x;have ep:iW j0 (au us l) 7 0 [x,bq lo,bq hi]=[⟨2,(ixR j0 x:Int),0,lo-(au us l x).mn,hi-(au us l x).mn⟩]:=by
   simp[iW,nK,dM,bq]
  have k:=abx nodes j0 Q h b am aL sL D C m (br b0 7 0 3) rfl ⟨2,(ixR j0 x:Int),0,lo-(au us l x).mn,hi-(au us l x).mn⟩ A S (by simp only;omega) (by omega) λF=>by
   have:=f141 nodes j0 Q hQ (F::bG nodes h b am aL sL D C A S) b ((LW nodes (au us l) j0 Q h b am aL sL D C m A S).push F) hc b0 λj v hv=>a1 j (aM v) (by rw[afy,hv];rfl)
   rw[ep]at this;exact this
  simp only[bH,if_true,ep];have k:(mu K).fn 88 [.ptr b 0,(cM b0 (.atom 7 0 [x,bq lo,bq hi])).av] (bG nodes h b am aL sL D C A S)=_:=k;rw[k];simp only;split<;>rename_i q
  ·rw[decide_eq_true q];rfl
  ·rw[decide_eq_false q];rfl
end
section
variable(j0:List Rf)(fd:Nd->Pol.Fd)(b:Loc)(nodes:Sl Nd)(H:List Pt->List Pt->Heap)(N:Nat)(hN:∀A S,(H A S).length=N)(hlen:nodes.l.length<=1000)
 (hb:∀A S,∃v r,hget (H A S) b=some (.box 95 false (.agg (nodes.avS Nd.av::r)))∧v=(0:Nat)) (hbn:b.1<N)
include hN hlen hb hbn
theorem IG(b0:Nat)(nv:AV)(ks:List Cd)(hk:ks.length<=1000)(hz:b0+1+Cd.sizes ks<=1000000)(A S:List Pt)
  (k88:∀j4 c s,ks=j4++c::s->∀(Fr:List Blk),nodes.l[b0+1+Cd.sizes j4]?=some (cM (b0+1+Cd.sizes j4) c) ∧
   (mu K).fn 88 [.ptr b 0,(cM (b0+1+Cd.sizes j4) c).av] (Fr::H (A++bF j0 fd (narrow j0 fd j4)) (S++j4.filterMap (bH j0 fd))) =
   some (.val (.bool (bH j0 fd c).isSome) (Fr::H (A++bF j0 fd (narrow j0 fd j4)) (S++j4.filterMap (bH j0 fd)++(bH j0 fd c).toList))))
  (k89:∀j4 c s,ks=j4++c::s->∀(Fr:List Blk) (S:List Pt),(mu K).fn 89 [.ptr b 0,iV ((b0+1+Cd.sizes j4:Nat):Int)] (Fr::H (A++bF j0 fd (narrow j0 fd j4)) S) =
   some (.val (fA (fmC j0 fd c)) (Fr::H (A++bF j0 fd (narrow j0 fd j4)++kQ j0 fd c) S))) :
  ∀(sk pk:List Cd),ks=pk++sk->∃j3,
   (mu K).code (.af 3 [0,4,6,35,36,37] zK) ⟨[(0,.ptr b 0),(4,.ptr (N,0) 0),(6,.own (N,2) (narrow j0 fd pk).length),(35,.lst ((starts (b0+1) ks).map iV)),(36,iV (ks.length:Int)),(37,iV (pk.length:Int))],
    [.box 34 false (.agg [.ay]),.box 90 false nv,fmB (bZ j0 fd (narrow j0 fd pk))]::H (A++bF j0 fd (narrow j0 fd pk)) (S++pk.filterMap (bH j0 fd))⟩ =
   some (.exit 0,⟨j3,[.box 34 false (.agg [.ay]),.box 90 false nv,fmB (bZ j0 fd (narrow j0 fd ks))]::H (A++bF j0 fd (narrow j0 fd ks)) (S++ks.filterMap (bH j0 fd))⟩) ∧
   get j3 4=.ptr (N,0) 0∧get j3 6=.own (N,2) (narrow j0 fd ks).length
 | [],pk,hh=>by
  rw[afz]at hh;rw[aj];generalize (mu K).code _=F;rw[hh];simp[zK]
 |c::sk,pk,hh=>by
  obtain⟨j3,ih,x⟩:=IG b0 nv ks hk hz A S k88 k89 sk (pk++[c]) (by simp[hh]);refine⟨j3,?_,x⟩;rw[<-ih];have hl:ks.length=pk.length+(sk.length+1):=by rw[hh];simp
  have c1:(pk.length<ks.length)=True:=eq_true (by omega);have e1:∀(q:IntKind),iaF 1 (.lst ((starts (b0+1) ks).map iV)) (.int q (pk.length:Int))=some (.eF (iV ((b0+1+Cd.sizes pk:Nat):Int)) 0):=λq=>
   cG (by omega) (by
    have:=sM c sk pk (b0+1);rw[<-hh]at this;simp[this]) rfl
  have w1:=wrS (n:=pk.length) (by omega);have kc:((b0+1+Cd.sizes pk:Nat):Int)=(b0:Int)+1+(Cd.sizes pk:Int):=by omega
  have hnl:(narrow j0 fd pk).length<=pk.length:=ag0 _ _;have r1:((narrow j0 fd pk).length+1)*24<=room:=by unfold room;omega
  have r2:(narrow j0 fd pk).length+1<=room:=by unfold room;omega
  have hn:=(k88 pk c sk hh []).1;have hia:∀(q:IntKind),iaF 6 (nodes.avS Nd.av) (.int q ((b0:Int)+1+(Cd.sizes pk:Int)))=some (.eF (cM (b0+1+Cd.sizes pk) c).av 0):=λq=>by
   rw[<-kc];exact cK (av:=Nd.av) (sz:=6) (s:=nodes) (k:=q) (by omega) (by rw[afM];exact hn) rfl
  have Ue:=λFr=>(k88 pk c sk hh Fr).2
  have XC:=λFr=>k89 pk c sk hh Fr
  rw[kc]at XC;have ep:∀(cs:List Cd),bF j0 fd (cs++[c])=bF j0 fd cs++kQ j0 fd c:=λcs=>by
   rw[iA,iA];simp
  have ef:∀(cs:List Cd),bZ j0 fd (cs++[c])=bZ j0 fd cs++[fmC j0 fd c]:=λcs=>by
   rw[lT,lT];simp
  have lf:(bZ j0 fd (narrow j0 fd pk)).length=(narrow j0 fd pk).length:=fR _ _ _;have ew:(pk++[c]).filterMap (bH j0 fd)=pk.filterMap (bH j0 fd)++(bH j0 fd c).toList:=by
   rw[List.filterMap_append];cases e:bH j0 fd c<;>simp[e]
  have en:narrow j0 fd (pk++[c])=narrow j0 fd pk++(if (bH j0 fd c).isNone then [c] else []):=by
   unfold narrow;rw[List.filter_append]
   congr 1
   cases e:bH j0 fd c<;>simp[e]
  rw[ew,en,<-List.append_assoc];obtain⟨v0,r0,gb,_⟩:=hb (A++bF j0 fd (narrow j0 fd pk)) (S++pk.filterMap (bH j0 fd));obtain⟨ot,oz,ho,hz2⟩:=uT (bZ j0 fd (narrow j0 fd pk));have nb:(b.1=N)=False:=eq_false (by omega);have n0:=hN (A++bF j0 fd (narrow j0 fd pk)) (S++pk.filterMap (bH j0 fd));have n1:=hN (A++bF j0 fd (narrow j0 fd pk)) (S++pk.filterMap (bH j0 fd)++(bH j0 fd c).toList);have n2:=hN (A++bF j0 fd (narrow j0 fd pk)++kQ j0 fd c) (S++pk.filterMap (bH j0 fd)++(bH j0 fd c).toList);have hs:=Ci (bZ j0 fd (narrow j0 fd pk)) (fmC j0 fd c);have Q3:=λFr=>XC Fr (S++pk.filterMap (bH j0 fd)++(bH j0 fd c).toList)
  clear XC k88 k89 ih;cases ew2:bH j0 fd c with
  |some a=>
   rw[ew2]at Ue Q3 n1 n2;simp only[Option.isNone_some,afA,if_false,afz,Option.toList_some,Option.isSome_some]at *
   rw[ho];rw[aj];generalize (mu K).code _=F;simp only[afr,Io,iO,afu];rw[show ((pk.length+1:Nat):Int)=(pk.length:Int)+1 by omega];simp[zK,KL,aa,c1,e1,hia,Ue,w1,n0,hget,nb,gb]
  |none=>
   rw[ew2]at Ue Q3 n1 n2;simp only[Option.isNone_none,if_true,afz,Option.toList_none,agL]at *
   rw[ep,ef,hs,ho,<-List.append_assoc A];generalize A++bF j0 fd (narrow j0 fd pk)=A1 at *
   generalize A1++kQ j0 fd c=A2 at *
   rw[aj];generalize (mu K).code _=F;simp only[afr,Io,iO,afu];rw[show ((pk.length+1:Nat):Int)=(pk.length:Int)+1 by omega];simp[zK,KL,aa,c1,e1,hia,Ue,Q3,w1,n0,n2,hget,nb,gb,r1,r2,lf,hz2,nW,xQ,AR]
end
section
variable(q:Po)(l:Sl Sc)(j0:List Rf)(R:List AV)(h:Heap)(b:Loc)(m:RM q l j0 R h b)
include m
theorem Q4(b0:Nat)(n:Nd)(hn:q.nodes.l[b0]?=some n)(hk:n.k≠7):(mu K).fn 97 [.ptr b 0,iV (b0:Int)] h=some (.val (.bool false) h):=by
 obtain⟨ne,ne2⟩:=jq m.hb;have hb:=m.hb;have q3:=ak _ bX q.nodes;have i1:=iaP Nd.av 6 q.nodes b0 n (by simpa using hn);rw[aC (KX _ _ _) Y7 rfl (by simp[c97])];simp[c97,hget,hb,ne2,i1,hk]
theorem acg(b0:Nat)(n:Nd)(hn:q.nodes.l[b0]?=some n)(hk:n.k=7)(a:Pt)(ha:-9223372036854775808<=a.hi-a.lo∧a.hi-a.lo<=9223372036854775807)(k98:∀F:List Blk,(mu K).fn 98 [.ptr b 0,iV (b0:Int)] (F::h)=some (.val (.lst [a.av]) (F::h))) :
  (mu K).fn 97 [.ptr b 0,iV (b0:Int)] h=some (.val (.bool (decide (64<=a.hi-a.lo))) h):=by
 obtain⟨ne,ne2⟩:=jq m.hb;have hb:=m.hb;have q3:=ak _ bX q.nodes;have i1:=iaP Nd.av 6 q.nodes b0 n (by simpa using hn);have w:IntKind.i64.wrap (a.hi-a.lo)=a.hi-a.lo:=wrap64 (by omega) (by omega);rw[aC (KX _ _ _) Y7 rfl (by simp[c97])];simp[c97,KL,aa,hget,hb,ne2,i1,hk,k98,w]
variable(Q:Nd->Prop)(hQ:∀v,Q v->Q (aM v))
include hQ
theorem f97(c:Cd)(b0:Nat)(hc:NF q.uses.l l.l Q c)(hat:At q.nodes.l b0 (flat b0 c)) :
  (mu K).fn 97 [.ptr b 0,iV (b0:Int)] h=some (.val (.bool (bH j0 (au q.uses.l l.l) c).isSome) h):=by
 cases c with
 |gate j5 ks=>
  have:=Q4 q l j0 R h b m b0 _ (wE hat) (by simp[cM,cj]);simpa[bH]using this
 |atom k num vs=>
  by_cases hk:k=7
  case neg=>
   have:=Q4 q l j0 R h b m b0 _ (wE hat) (by simpa[cM,br]using hk);simpa[bH,hk]using this
  subst hk;obtain⟨a0,a1⟩:=gA hat;obtain⟨qv,hA⟩:=id hc;rcases hA with⟨q',_⟩|⟨_,rfl,x,lo,hi,rfl,kx,hv,e⟩
  ·exact absurd q' (by decide)
  obtain⟨w1,w2,w3⟩:=mo e;obtain⟨_,x1,x2,x3,x4⟩:=m.hf x;have ep:iW j0 (au q.uses.l l.l) 7 0 [x,bq lo,bq hi]=[⟨2,(ixR j0 x:Int),0,lo-(au q.uses.l l.l x).mn,hi-(au q.uses.l l.l x).mn⟩]:=by
   simp[iW,nK,dM,bq]
  have k:=acg q l j0 R h b m b0 _ a0 rfl ⟨2,(ixR j0 x:Int),0,lo-(au q.uses.l l.l x).mn,hi-(au q.uses.l l.l x).mn⟩ (by simp only;omega) λF=>by
   have:=f98 q l j0 R Q hQ (F::h) b (m.push F) hc b0 a0 λj v hv=>a1 j (aM v) (by rw[afy,hv];rfl)
   rw[ep]at this;exact this
  simp only[bH,if_true,ep];rw[k];simp only;split<;>rename_i q'
  ·rw[decide_eq_true q'];rfl
  ·rw[decide_eq_false q'];rfl
end
theorem EG(T:List Blk)(A B C:Blk):List.take (T.length+2) (T++[A,B,C])=T++[A,B]:=by
 rw[List.take_append,agG (by omega)]
 congr 1
 rw[show T.length+2-T.length=2 by omega];rfl
theorem EH(a1 a4 a9 a10 a11 a13:AV)(d:Nat)(ks:List Int)(hk:ks.length<=1000)(hd:d<=1000)(hb:∀k∈ks,0<=k∧k<=1000)(n0 f0 nd lf:AV)(hn0:n0.cells=[n0])(hn1:nd.cells=[nd])(hn2:nd.isAgg=false)(hf1:lf.cells=[lf])(T:List Blk)(h:Heap) :
  ∀(s j4:List Int),ks=j4++s->j4≠[]->∃j3,
   (mu K).code (.af (T.length+2) [1,4,9,10,11,12,13,14,15,16] iQ) ⟨[(1,a1),(4,a4),(9,a9),(10,a10),(11,a11),(12,iV (d:Int)),(13,a13),(14,.ptr (h.length,T.length) 0),(15,.ptr (h.length,T.length+1) 0),(16,iV (j4.length:Int))],
    (T++[.box 140 false (.agg [n0,.lst (ks.map iV),f0]),.box 140 false (.agg [nd,.own (h.length,T.length+2) j4.length,lf]),.arr 3 1 false (j4.map λk=>iV (k+(d:Int)))])::h⟩ =
   some (.exit 6,⟨j3,(T++[.box 140 false (.agg [n0,.lst (ks.map iV),f0]),.box 140 false (.agg [nd,.own (h.length,T.length+2) ks.length,lf]),.arr 3 1 false (ks.map λk=>iV (k+(d:Int)))])::h⟩) ∧
   get j3 1=a1∧get j3 4=a4∧get j3 9=a9∧get j3 10=a10∧get j3 11=a11∧get j3 12=iV (d:Int)∧get j3 13=a13∧get j3 14=.ptr (h.length,T.length) 0∧get j3 15=.ptr (h.length,T.length+1) 0
 | [],j4,e,hp=>by
  rw[afz]at e;subst e;rw[aj];generalize (mu K).code (.af (T.length+2) [1,4,9,10,11,12,13,14,15,16] iQ)=F;simp[iQ]
 |k::s,j4,e,hp=>by
  have ih:=EH a1 a4 a9 a10 a11 a13 d ks hk hd hb n0 f0 nd lf hn0 hn1 hn2 hf1 T h s (j4++[k]) (by simp[e]) (by simp);have hl:ks.length=j4.length+(s.length+1):=by rw[e];simp
  obtain⟨k0,k1⟩:=hb k (by rw[e];simp);have c1:((j4.length:Int)<(ks.length:Int))=True:=eq_true (by omega);have c2:(j4.length<ks.length)=True:=eq_true (by omega);have w1:IntKind.i64.wrap (k+(d:Int))=k+(d:Int):=wrap64 (by omega) (by omega);have w2:=wrS (n:=j4.length) (by omega);have e1:=λ(q:IntKind)=>cG (sz:=1) (l:=ks.map iV) (k:=q) (j:=(j4.length:Int)) (v:=iV k) (by omega) (by rw[afM,afy,e];simp) rfl
  have r1:(j4.length+1)*8<=room:=by unfold room;omega
  have r2:j4.length+1<=room:=by unfold room;omega
  rw[aj];generalize (mu K).code (.af (T.length+2) [1,4,9,10,11,12,13,14,15,16] iQ)=F at *
  simp only[afE,afj,afw,afr,Io,iO,afu]at ih;rw[show ((j4.length+1:Nat):Int)=(j4.length:Int)+1 by omega]at ih;simp[iQ,c1,e1,w1,w2,r1,r2,List.replicate,EG];exact ih
theorem N6(a1 a4 a9 a10 a11 a13:AV)(d:Nat)(ks:List Int)(hne:ks≠[])(hk:ks.length<=1000)(hd:d<=1000)(hb:∀k∈ks,0<=k∧k<=1000)(n0 f0 nd lf:AV)(hn0:n0.cells=[n0])(hn1:nd.cells=[nd])(hn2:nd.isAgg=false)(hf1:lf.cells=[lf])(T:List Blk)(h:Heap) :
  ∃j3,(mu K).code (.af (T.length+2) [1,4,9,10,11,12,13,14,15,16] iQ) ⟨[(1,a1),(4,a4),(9,a9),(10,a10),(11,a11),(12,iV (d:Int)),(13,a13),(14,.ptr (h.length,T.length) 0),(15,.ptr (h.length,T.length+1) 0),(16,iV 0)],
    (T++[.box 140 false (.agg [n0,.lst (ks.map iV),f0]),.box 140 false (.agg [nd,.ay,lf])])::h⟩ =
   some (.exit 6,⟨j3,(T++[.box 140 false (.agg [n0,.lst (ks.map iV),f0]),.box 140 false (.agg [nd,.own (h.length,T.length+2) ks.length,lf]),.arr 3 1 false (ks.map λk=>iV (k+(d:Int)))])::h⟩) ∧
   get j3 1=a1∧get j3 4=a4∧get j3 9=a9∧get j3 10=a10∧get j3 11=a11∧get j3 12=iV (d:Int)∧get j3 13=a13∧get j3 14=.ptr (h.length,T.length) 0∧get j3 15=.ptr (h.length,T.length+1) 0:=by
 cases ks with
 |nil=>exact absurd rfl hne
 |cons k s=>
  have ih:=EH a1 a4 a9 a10 a11 a13 d (k::s) hk hd hb n0 f0 nd lf hn0 hn1 hn2 hf1 T h s [k] rfl (by simp);obtain⟨k0,k1⟩:=hb k (by simp);have w1:IntKind.i64.wrap (k+(d:Int))=k+(d:Int):=wrap64 (by omega) (by omega);have w2:IntKind.i64.wrap 1=1:=by decide
  have r1:(8:Nat)<=room:=by unfold room;omega
  have r2:(1:Nat)<=room:=by unfold room;omega
  have c0:(0:Int)<(s.length:Int)+1:=by omega
  rw[aj];generalize (mu K).code (.af (T.length+2) [1,4,9,10,11,12,13,14,15,16] iQ)=F at *
  simp only[afU,afj,afw,agk]at ih⊢;simp[iQ,c0,w1,w2,r1,r2,List.replicate,EG];simpa using ih
theorem Kb(a1 a4 a9 a10 a11 a12 a13:AV)(n0 f0:AV)(hn0:n0.cells=[n0])(B:Blk)(T:List Blk)(h:Heap) :
  ∃j3,(mu K).code (.af (T.length+2) [1,4,9,10,11,12,13,14,15,16] iQ) ⟨[(1,a1),(4,a4),(9,a9),(10,a10),(11,a11),(12,a12),(13,a13),(14,.ptr (h.length,T.length) 0),(15,.ptr (h.length,T.length+1) 0),(16,iV 0)],
    (T++[.box 140 false (.agg [n0,.ay,f0]),B])::h⟩ =
   some (.exit 6,⟨j3,(T++[.box 140 false (.agg [n0,.ay,f0]),B])::h⟩) ∧
   get j3 1=a1∧get j3 4=a4∧get j3 9=a9∧get j3 10=a10∧get j3 11=a11∧get j3 12=a12∧get j3 13=a13∧get j3 14=.ptr (h.length,T.length) 0∧get j3 15=.ptr (h.length,T.length+1) 0:=by
 rw[aj];generalize (mu K).code (.af (T.length+2) [1,4,9,10,11,12,13,14,15,16] iQ)=F;simp[iQ]
mutual
theorem Ge:∀(f:Fm) (b c:Nat) (pg:List Gt) (g:Gt) (sg:List Gt),f.ok->flF b c f=pg++g::sg->g.kids.l=[]->g.leaf=((c+lvG pg:Nat):Int)
 |.leaf,b,c,pg,g,sg,_,e,hk=>by
  cases pg with
  |nil=>
   simp only[flF,afq,afH]at e;rw[<-e.1];simp[lvG]
  |cons x pg=>simp[flF]at e
 |.gate j5 ks,b,c,pg,g,sg,ho,e,hk=>by
  have hne:fZ (b+1) ks≠[]:=by
   cases ks with
   |nil=>exact absurd ho.2.1 (by have:=ho.1;simp;omega)
   |cons x s=>simp[fZ]
  cases pg with
  |nil=>
   simp only[flF,afq,afH]at e;rw[<-e.1]at hk;exact absurd hk hne
  |cons x pg=>
   simp only[flF,afo,afH]at e;have:=CQ ks (b+1) c pg g sg ho.2.2 e.2 hk;have h1:lvG (x::pg)=lvG pg:=by
    rw[<-e.1];simp[lvG,hne]
   rw[h1];exact this
theorem CQ:∀(fs:List Fm) (b c:Nat) (pg:List Gt) (g:Gt) (sg:List Gt),Fm.oks fs->fF b c fs=pg++g::sg->g.kids.l=[]->g.leaf=((c+lvG pg:Nat):Int)
 | [],b,c,pg,g,sg,_,e,hk=>by simp[fF]at e
 |f::fs,b,c,pg,g,sg,ho,e,hk=>by
  simp only[fF]at e;rcases List.append_eq_append_iff.1 e with⟨a,e1,e2⟩|⟨a,e1,e2⟩
  ·have:=CQ fs (b+f.size) (c+f.lvs) a g sg ho.2 e2 hk;rw[e1,FV,uX f b c ho.1,this]
   congr 1
   omega
  ·cases a with
   |nil=>
    simp only[afz,afq]at e1 e2;have:=CQ fs (b+f.size) (c+f.lvs) [] g sg ho.2 e2.symm hk;rw[<-e1,uX f b c ho.1,this];simp[lvG]
   |cons x a=>
    simp only[afo,afH]at e2;rw[<-e2.1]at e1;exact Ge f b c pg g a ho.1 e1 hk
end
end Go.Ab.Pn
namespace Go.Ab.Pn
open Go.Ab.Pol
abbrev T4(n:Nat)(rt:AV)(G:List Gt)(kb:List AV):List Blk:=[.box 34 false (.agg [.ay]),.arv 140 3 (rt::G.map Gt.av),.box 34 false (.agg [.own (n,1) (G.length+1)]),.arr 3 1 false kb]
abbrev E4(a1:AV)(n:Nat)(cnt i d k:Nat):Env:=[(1,a1),(4,.ptr (n,0) 0),(9,.ptr (n,2) 0),(10,iV (cnt:Int)),(11,iV (i:Int)),(12,iV (d:Int)),(13,iV (k:Int))]
section
variable(a1:AV)(p1:a1.pure=true)(d e i:Nat)(hd:d<=1000)(he:e<=1000)(rt:AV)(kb:List AV)(h:Heap)(hrt:rt.aO (λa=>!(a.1==h.length) ||decide (a.2<4))=true)(hrc:rt.cells.length=3)
 (gs:List Gt) (hgl:gs.length<=1000) (e0:∀q:IntKind,iaF 1 a1 (.int q (i:Int))=some (.eF (.agg [.lst (gs.map Gt.av)]) 0))
include p1 hd he hrt hrc hgl e0
theorem Kc(pg sg:List Gt)(g:Gt)(hgs:gs=pg++g::sg)(hg:GtJ g)(hk:g.kids.l=[])(hlf:g.leaf=(lvG pg:Int))(G:List Gt)(hG:G.length<=100000) :
  (mu K).code (.af 4 [1,4,9,10,11,12,13] jw) ⟨E4 a1 h.length (e+lvG pg) i d pg.length,T4 h.length rt G kb::h⟩ =
  (mu K).code (.af 4 [1,4,9,10,11,12,13] jw) ⟨E4 a1 h.length (e+(lvG pg+1)) i d (pg.length+1),T4 h.length rt (G++[bQ d e g]) kb::h⟩:=by
 obtain⟨g1,g2,g3,g4,g5⟩:=hg;have hl:gs.length=pg.length+(sg.length+1):=by rw[hgs];simp
 have c1:((pg.length:Int)<(gs.length:Int))=True:=eq_true (by omega);have c2:(pg.length<gs.length)=True:=eq_true (by omega);have e1:=λ(q:IntKind)=>cG (sz:=3) (l:=gs.map Gt.av) (k:=q) (j:=(pg.length:Int)) (v:=g.av) (by omega) (by rw[hgs];simp) rfl
 have ek:g.kids.avS iV=.ay:=by simp[Sl.avS,hk,g1,lv]
 have pd:g.av=.agg [iV g.need,.ay,iV g.leaf]:=by rw[<-ek]
 have w2:=wrS (n:=pg.length) (by omega);have w3:IntKind.i64.wrap ((e:Int)+((lvG pg:Int)+1))=(e:Int)+((lvG pg:Int)+1):=wrap64 (by omega) (by omega);have k1:=λa10 n0 f0 h0 B=>Kb a1 (.ptr (h.length,0) 0) (.ptr (h.length,2) 0) a10 (iV (i:Int)) (iV (d:Int)) (iV (pg.length:Int)) n0 f0 h0 B (T4 h.length rt G kb) h
 obtain⟨j3,k1,x1,x4,x9,x10,x11,x12,x13,x14,x15⟩:=k1 (iV ((e+lvG pg:Nat):Int)) (iV g.need) (iV g.leaf) rfl (.box 140 false (.agg [iV g.need,.ay,iV 0]));have r1:(G.length+1+1)*40<=room:=by unfold room;omega
 have r2:G.length+1+1<=room:=by unfold room;omega
 have es:(bQ d e g).av=.agg [iV g.need,.ay,iV ((e:Int)+(lvG pg:Int))]:=by
  unfold bQ;rw[if_pos hk,hlf,Int.add_comm];simp[Gt.av,Sl.avS,hk,g1,lv]
 have q1:=oc (λa=>!(a.1==h.length) ||decide (a.2<4)) G;have q63:=eJ a1 p1;rw[pd]at e1;rw[aj];generalize (mu K).code (.af _ _ jw)=F at *
 simp only[T4,E4,afE,afj,afw,es,afr,Io,iO,afo,afq,afu,Nat.reduceAdd,agm,agk]at *
 simp[jw,c1,e0,e1,k1,x1,x4,x9,x10,x11,x12,x13,x14,x15,w2,w3,r1,r2,q1,q63,hrt,lX,Int.add_assoc]
theorem II(pg sg:List Gt)(g:Gt)(hgs:gs=pg++g::sg)(hg:GtJ g)(hk:g.kids.l≠[])(G:List Gt)(hG:G.length<=100000) :
  (mu K).code (.af 4 [1,4,9,10,11,12,13] jw) ⟨E4 a1 h.length (e+lvG pg) i d pg.length,T4 h.length rt G kb::h⟩ =
  (mu K).code (.af 4 [1,4,9,10,11,12,13] jw) ⟨E4 a1 h.length (e+lvG pg) i d (pg.length+1),T4 h.length rt (G++[bQ d e g]) kb::h⟩:=by
 obtain⟨g1,g2,g3,g4,g5⟩:=hg;have hl:gs.length=pg.length+(sg.length+1):=by rw[hgs];simp
 have c1:((pg.length:Int)<(gs.length:Int))=True:=eq_true (by omega);have c2:(pg.length<gs.length)=True:=eq_true (by omega);have e1:=λ(q:IntKind)=>cG (sz:=3) (l:=gs.map Gt.av) (k:=q) (j:=(pg.length:Int)) (v:=g.av) (by omega) (by rw[hgs];simp) rfl
 have ek:g.kids.avS iV=.lst (g.kids.l.map iV):=by rw[Sl.avS,gu];simpa using hk
 have pd:g.av=.agg [iV g.need,.lst (g.kids.l.map iV),iV g.leaf]:=by rw[<-ek]
 have w2:=wrS (n:=pg.length) (by omega);obtain⟨j3,k1,x1,x4,x9,x10,x11,x12,x13,x14,x15⟩:=N6 a1 (.ptr (h.length,0) 0) (.ptr (h.length,2) 0) (iV ((e+lvG pg:Nat):Int)) (iV (i:Int)) (iV (pg.length:Int)) d g.kids.l hk g2 hd g3 (iV g.need) (iV g.leaf) (iV g.need) (iV 0) rfl rfl rfl rfl (T4 h.length rt G kb) h;have r1:(G.length+1+1)*40<=room:=by unfold room;omega
 have r2:G.length+1+1<=room:=by unfold room;omega
 have hk0:((g.kids.l.length:Int)=0)=False:=by
  refine eq_false λq=>hk ?_
  exact afJ (by omega)
 have es:(bQ d e g).av=.agg [iV g.need,.lst (g.kids.l.map λk=>iV (k+(d:Int))),iV 0]:=by
  unfold bQ;rw[if_neg hk];have:(⟨g.kids.nl,g.kids.l.map (·+(d:Int))⟩:Sl Int).avS iV=.lst (g.kids.l.map λk=>iV (k+(d:Int))):=by
   rw[Sl.avS,gu]
   ·simp[Function.comp_def]
   ·simpa using hk
  simp only[Gt.av,Gt.cs,this]
 have q1:=oc (λa=>!(a.1==h.length) ||decide (a.2<4)) G;have q63:=eJ a1 p1;rw[pd]at e1;rw[aj];generalize (mu K).code (.af _ _ jw)=F at *
 simp only[T4,E4,afE,afj,afw,es,afr,Io,iO,afo,afq,afu,Nat.reduceAdd,agm,agk]at *
 simp[jw,c1,e0,e1,k1,x1,x4,x9,x10,x11,x12,x13,x14,x15,w2,r1,r2,q1,q63,hrt,lX,hk]
theorem ze(hj:∀g∈gs,GtJ g)(hlf:∀pg g sg,gs=pg++g::sg->g.kids.l=[]->g.leaf=(lvG pg:Int))(G0:List Gt)(hG:G0.length<=90000):∀(sg pg:List Gt),gs=pg++sg->∃j3,
  (mu K).code (.af 4 [1,4,9,10,11,12,13] jw) ⟨E4 a1 h.length (e+lvG pg) i d pg.length,T4 h.length rt (G0++pg.map (bQ d e)) kb::h⟩ =
   some (.exit 4,⟨j3,T4 h.length rt (G0++gs.map (bQ d e)) kb::h⟩) ∧
   get j3 1=a1∧get j3 4=.ptr (h.length,0) 0∧get j3 9=.ptr (h.length,2) 0∧get j3 10=iV ((e+lvG gs:Nat):Int)∧get j3 11=iV (i:Int)
 | [],pg,hh=>by
  rw[afz]at hh;subst hh;rw[aj];generalize (mu K).code _=F;simp[jw,e0]
 |g::sg,pg,hh=>by
  have hp:pg.length<=1000:=by
   have:gs.length=pg.length+(sg.length+1):=by rw[hh];simp
   omega
  obtain⟨j3,ih,r⟩:=ze hj hlf G0 hG sg (pg++[g]) (by simp[hh]);refine⟨j3,?_,r⟩;rw[<-ih];have hgm:=hj g (by rw[hh];simp);have hGl:(G0++pg.map (bQ d e)).length<=100000:=by simp;omega
  rw[HX,show (pg++[g]).map (bQ d e)=pg.map (bQ d e)++[bQ d e g] by simp,<-List.append_assoc,afr,afU];by_cases c:g.kids.l=[]
  ·rw[if_pos c];exact Kc a1 p1 d e i hd he rt kb h hrt hrc gs hgl e0 pg sg g hh hgm c (hlf pg g sg hh c) (G0++pg.map (bQ d e)) hGl
  ·rw[if_neg c];exact II a1 p1 d e i hd he rt kb h hrt hrc gs hgl e0 pg sg g hh hgm c (G0++pg.map (bQ d e)) hGl
end
abbrev rtA(j5:Int)(n m:Nat):AV:=.agg [iV j5,.own (n,3) m,iV 0]
abbrev T4f(n:Nat)(j5:Int)(pf:List Fm):List Blk:=T4 n (rtA j5 n pf.length) (fF 1 0 pf) ((fZ 1 pf).map iV)
abbrev E3(a1:AV)(n:Nat)(cnt i:Nat):Env:=[(1,a1),(4,.ptr (n,0) 0),(9,.ptr (n,2) 0),(10,iV (cnt:Int)),(11,iV (i:Int))]
section
variable(j5:Int)(fs:List Fm)(hfs:fs.length<=900)(hs:Fm.sizes fs<=900)(ho:Fm.oks fs)(h:Heap)
include hfs hs ho
theorem Q5(f:Fm)(sf:List Fm)(hh:fs=f::sf) :
  (mu K).code (.af 3 [1,4,9,10,11] kK) ⟨E3 (.lst (fs.map fA)) h.length 0 0,[.box 34 false (.agg [.ay]),.arr 140 3 false [.agg [iV j5,.ay,iV 0]],.box 34 false (.agg [.own (h.length,1) 1])]::h⟩ =
  (mu K).code (.af 3 [1,4,9,10,11] kK) ⟨E3 (.lst (fs.map fA)) h.length f.lvs 1,T4f h.length j5 [f]::h⟩:=by
 have hl:fs.length=sf.length+1:=by rw[hh];simp
 have hsz:f.size+Fm.sizes sf=Fm.sizes fs:=by rw[hh];simp[Fm.sizes]
 have hok:f.ok:=by rw[hh]at ho;exact ho.1
 have c1:(0<fs.length)=True:=eq_true (by omega);have e1:=λ(q:IntKind)=>cG (sz:=1) (l:=fs.map fA) (k:=q) (j:=((0:Nat):Int)) (v:=.agg [.lst ((flF 0 0 f).map Gt.av)]) (by omega) (by rw[hh];rfl) rfl
 have w0:IntKind.i64.wrap 1=1:=by decide
 have r1:(8:Nat)<=room:=by unfold room;omega
 have r2:(1:Nat)<=room:=by unfold room;omega
 have hlen:=gB f 0 0;obtain⟨j3,k2,x1,x4,x9,x10,x11⟩:=ze (.lst (fs.map fA)) rfl 1 0 0 (by omega) (by omega) (rtA j5 h.length 1) [iV 1] h (by simp) rfl (flF 0 0 f) (by omega) e1 (F5 (by omega))
  (λpg g sg e hk=>by have:=Ge f 0 0 pg g sg hok e hk;simpa using this) [] (by simp) (flF 0 0 f) [] rfl
 have es:fF 1 0 [f]=(flF 0 0 f).map (bQ 1 0):=by
  have:=og f hok [] 1 0;simpa[fF,Fm.sizes,Fm.cU]using this
 have el:lvG (flF 0 0 f)=f.lvs:=uX f 0 0 hok;have lz:lvG ([]:List Gt)=0:=rfl;rw[el]at x10;rw[aj];generalize (mu K).code (.af _ _ kK)=F at *
 simp only[T4f,es,E3,T4,rtA];simp only[T4,E4,rtA]at k2;simp[lz,hlen]at k2 x10;simp[kK,c1,k2,x1,x4,x9,x10,x11,r1,r2,fZ,w0,hlen,List.replicate]
theorem Q6(pf:List Fm)(hpf:pf≠[])(f:Fm)(sf:List Fm)(hh:fs=pf++f::sf) :
  (mu K).code (.af 3 [1,4,9,10,11] kK) ⟨E3 (.lst (fs.map fA)) h.length (Fm.cU pf) pf.length,T4f h.length j5 pf::h⟩ =
  (mu K).code (.af 3 [1,4,9,10,11] kK) ⟨E3 (.lst (fs.map fA)) h.length (Fm.cU pf+f.lvs) (pf.length+1),T4f h.length j5 (pf++[f])::h⟩:=by
 have hl:fs.length=pf.length+(sf.length+1):=by rw[hh];simp only[afr,Io]
 have hsz:Fm.sizes pf+(f.size+Fm.sizes sf)=Fm.sizes fs:=by
  rw[hh];have:∀(a b:List Fm),Fm.sizes (a++b)=Fm.sizes a+Fm.sizes b:=λa b=>by
   induction a with
   |nil=>simp[Fm.sizes]
   |cons x a ih=>simp only[afo,Fm.sizes,ih];omega
  rw[this];simp[Fm.sizes]
 have hok:f.ok:=Fm.jd.1 ho f (by rw[hh];simp);have aey:=AX pf;have gl:(fF 1 0 pf).length=Fm.sizes pf:=nZ _ _ _;have kl:(fZ 1 pf).length=pf.length:=by rw[fT]
 have c1:((pf.length:Int)<(fs.length:Int))=True:=eq_true (by omega);have c2:(pf.length<fs.length)=True:=eq_true (by omega);have w0:=wrS (n:=pf.length) (by omega);have r1:(pf.length+1)*8<=room:=by unfold room;omega
 have r2:pf.length+1<=room:=by unfold room;omega
 have hlen:=gB f 0 0;have e1:=λ(q:IntKind)=>cG (sz:=1) (l:=fs.map fA) (k:=q) (j:=(pf.length:Int)) (v:=.agg [.lst ((flF 0 0 f).map Gt.av)]) (by omega) (by rw[afM,afy,hh];simp;rfl) rfl
 obtain⟨j3,k2,x1,x4,x9,x10,x11⟩:=ze (.lst (fs.map fA)) rfl (Fm.sizes pf+1) (Fm.cU pf) pf.length (by omega) (by omega) (rtA j5 h.length (pf.length+1)) ((fZ 1 pf).map iV++[iV ((Fm.sizes pf:Int)+1)]) h (by simp) rfl (flF 0 0 f) (by omega) e1 (F5 (by omega))
  (λpg g sg e hk=>by have:=Ge f 0 0 pg g sg hok e hk;simpa using this) (fF 1 0 pf) (by omega) (flF 0 0 f) [] rfl
 have el:lvG (flF 0 0 f)=f.lvs:=uX f 0 0 hok;have lz:lvG ([]:List Gt)=0:=rfl;rw[el]at x10;have es:=og f hok pf 1 0;rw[show 1+Fm.sizes pf=Fm.sizes pf+1 by omega,show 0+Fm.cU pf=Fm.cU pf by omega]at es;have ek:=xU f pf 1;have ek2:((1+Fm.sizes pf:Nat):Int)=(Fm.sizes pf:Int)+1:=by omega
 rw[ek2]at ek;simp only[T4f];rw[es,ek];rw[aj];generalize (mu K).code (.af _ _ kK)=F at *
 simp only[E3,T4,rtA];simp only[T4,E4,rtA]at k2;simp[lz,hlen,gl]at k2 x10;simp[kK,c1,k2,x1,x4,x9,x10,x11,r1,r2,w0,hlen,gl,kl,List.replicate]
end
theorem XD{f:Fm}(ho:f.ok)(hs:f.size<=512)(hl:f.lvs<=256)(h:Heap):(mu K).fn 71 [fA f] h=some (.val (.tup [iV (f.lvs:Int),.bool true]) h):=by
 obtain⟨n,k,e⟩:=f71 ⟨true,flF 0 0 f⟩ (xG hs) (by simp only;rw[gB];omega) h;have q:=LO ho hl;rw[JW,k,e _ q];simp only[q];rfl
section
variable(j5:Int)(fs:List Fm)(hfs:fs.length<=900)(hs:Fm.sizes fs<=900)(ho:Fm.oks fs)(h:Heap)
include hfs hs ho
theorem CR:∀(sf pf:List Fm),fs=pf++sf->pf≠[]->∃j3,
  (mu K).code (.af 3 [1,4,9,10,11] kK) ⟨E3 (.lst (fs.map fA)) h.length (Fm.cU pf) pf.length,T4f h.length j5 pf::h⟩=some (.exit 2,⟨j3,T4f h.length j5 fs::h⟩) ∧
   get j3 4=.ptr (h.length,0) 0∧get j3 9=.ptr (h.length,2) 0∧get j3 10=iV (Fm.cU fs:Int)
 | [],pf,hh,hp=>by
  rw[afz]at hh;subst hh;rw[aj];generalize (mu K).code _=F;simp[kK]
 |f::sf,pf,hh,hp=>by
  obtain⟨j3,ih,x⟩:=CR sf (pf++[f]) (by simp[hh]) (by simp);refine⟨j3,?_,x⟩;rw[<-ih,Q6 j5 fs hfs hs ho h pf hp f sf hh,uY,afr,afU]
end
section
variable(j5:Int)(fs:List Fm)(hfs:fs.length<=900)(hok:∀f∈fs,f.ok∧f.size<=512∧f.lvs<=256)(h:Heap)
include hfs hok
theorem EI : ∀(sf pf : List Fm), fs = pf ++ sf -> ∃j3, (mu K).code (.af 1 [0, 1, 4, 6] xC) ⟨[(0, iV j5), (1, .lst (fs.map fA)), (4, .ptr (h.length, 0) 0), (6, iV (pf.length : Int))], [.box 34 false (.agg [.ay])]::h⟩ =
      some (.exit 0, ⟨j3, [.box 34 false (.agg [.ay])]::h⟩)∧get j3 0=iV j5∧get j3 1=.lst (fs.map fA)∧get j3 4=.ptr (h.length, 0) 0
  | [], pf, hh=>by
    rw[afz]at hh;rw[aj];generalize (mu K).code _=F;rw[hh];simp[xC]
  |f::sf, pf, hh=>by
    obtain⟨j3, ih, x⟩:=EI sf (pf++[f]) (by simp[hh]);refine⟨j3, ?_, x⟩;rw[<-ih];obtain⟨o1, o2, o3⟩:=hok f (by rw[hh];simp);have hl:fs.length=pf.length+(sf.length+1):=by rw[hh];simp
    have c1:((pf.length:Int)<(fs.length:Int))=True:=eq_true (by omega);have c2:(pf.length<fs.length)=True:=eq_true (by omega);have fa:(fA f)=.agg [.lst ((flF 0 0 f).map Gt.av)]:=rfl;have e1:=λ(q:IntKind)=>cG (sz:=1) (l:=fs.map fA) (k:=q) (j:=(pf.length:Int)) (v:=fA f) (by omega) (by rw[afM, afy, hh];simp) rfl
    have k71:=XD o1 o2 o3;have w1:=wrS (n:=pf.length) (by omega);have hp:=f.size_pos;have hlen:=gB f 0 0;have n0:(f.size=0)=False:=eq_false (by omega);have hne:(flF 0 0 f=[])=False:=eq_false λe=>by rw[e]at hlen;simp at hlen;omega
    rw[fa]at k71 e1;rw[aj];generalize (mu K).code _=F;simp[xC, KL, aa, c1, e1, k71, w1, hlen, n0]
end
theorem f161(j5:Int)(fs:List Fm)(h1:1<=j5)(h2:j5<=(fs.length:Int))(hok:∀f∈fs,f.ok)(hs:Fm.sizes fs+1<=512)(hl:Fm.cU fs<=256)(h:Heap) :
  (mu K).fn 161 [iV j5,.lst (fs.map fA)] h=some (.val (.tup [fA (.gate j5 fs),iV 0]) h):=by
 have hn:=sO fs;have hne:fs≠[]:=λe=>by rw[e]at h2;simp at h2;omega
 have Xk:∀f∈fs,f.ok∧f.size<=512∧f.lvs<=256:=λf hf=>by
  obtain⟨a,b,e⟩:=List.append_of_mem hf;have e1:Fm.sizes fs=Fm.sizes a+(f.size+Fm.sizes b):=by
   rw[e];clear e hf
   induction a with
   |nil=>simp[Fm.sizes]
   |cons x a ih=>simp only[afo,Fm.sizes,ih];omega
  have e2:Fm.cU fs=Fm.cU a+(f.lvs+Fm.cU b):=by
   rw[e];clear e1 e hf
   induction a with
   |nil=>simp[Fm.cU]
   |cons x a ih=>simp only[afo,Fm.cU,ih];omega
  exact⟨hok f hf,by omega,by omega⟩
 obtain⟨JG,k0,x0,x1,x4⟩:=EI j5 fs (by omega) Xk h fs [] rfl;obtain⟨f0,r,hf⟩:∃f0 r,fs=f0::r:=by
  cases e:fs with
  |nil=>exact absurd e hne
  |cons a b=>exact⟨a,b,rfl⟩
 obtain⟨FR,k3,y4,y9,y10⟩:=CR j5 fs (by omega) (by omega) (Fm.jd.2 hok) h r [f0] (by rw[hf];rfl) (by simp);have lv0:Fm.cU [f0]=f0.lvs:=by simp[Fm.cU]
 rw[lv0]at k3;have k30:=Q5 j5 fs (by omega) (by omega) (Fm.jd.2 hok) h f0 r hf;have k3:=k30.trans k3;clear k30;have n0:(fs=[])=False:=eq_false hne;have nl:(fs.length=0)=False:=eq_false λe=>hne (afJ e)
 have c1:(j5<1)=False:=eq_false (by omega);have c2:((fs.length:Int)<j5)=False:=eq_false (by omega);have c3:((512:Int)<(Fm.sizes fs:Int)+1)=False:=eq_false (by omega);have c4:((256:Int)<(Fm.cU fs:Int))=False:=eq_false (by omega);have c5:(256<Fm.cU fs)=False:=eq_false (by omega);have ek:∀l:List Int,l≠[]->(⟨true,l⟩:Sl Int).avS iV=.lst (l.map iV):=λl hl=>by rw[Sl.avS,gu];simpa using hl
 have es:fA (.gate j5 fs)=.agg [.lst (.agg [iV j5,.lst ((fZ 1 fs).map iV),iV 0]::(fF 1 0 fs).map Gt.av)]:=by
  unfold fA;simp only[flF,afj,Gt.av,Gt.cs];rw[ek];intro e;have:=fT fs 1;rw[e]at this;exact hne (afJ this.symm)
 have gl:(fF 1 0 fs).length=Fm.sizes fs:=nZ _ _ _;have vg:=λH=>CA H (fF 1 0 fs)
 have sl:(fZ 1 fs).length=fs.length:=fT _ _;rw[es];rw[aC (KX _ _ _) ZQ rfl (by simp[VR])];simp only[T4f,T4,rtA,E3]at k3;generalize fF 1 0 fs=G at *
 generalize fZ 1 fs=KS at *
 simp at k0 k3;simp[VR,nl,k0,x0,x1,x4,k3,y4,y9,y10,c1,c2,c3,c4,gl,vg,sl,List.replicate]
section
variable{us:List Us}{l:List Sc}(nodes:Sl Nd)(j0:List Rf)(Q:Nd->Prop)(hQ:∀v,Q v->Q (aM v))(b am aL sL:Loc)(D C:AV)
include hQ
theorem N7(c:Cd)(n:Nd)(hn:nodes.l[0]?=some n)(h:Heap)(m:Pls nodes (au us l) j0 Q h b am aL sL)(A S:List Pt)(w:Bool)(S':List Pt)
  (k88:∀F:List Blk,(mu K).fn 88 [.ptr b 0,n.av] (F::bG nodes h b am aL sL D C A S)=some (.val (.bool w) (F::bG nodes h b am aL sL D C A S'))) (hw:w=true) :
  (mu K).fn 39 [.ptr b 0,iV 0] (bG nodes h b am aL sL D C A S)=some (.val (.agg [.ay]) (bG nodes h b am aL sL D C A S')):=by
 obtain⟨n1,n2,n3,n4,n5,n6⟩:=sU nodes j0 Q h b am aL sL D C m A S;have gb:=rH nodes (au us l) j0 Q h b am aL sL D C m A S;have hia:=λ(q:IntKind)=>cK (av:=Nd.av) (sz:=6) (s:=nodes) (k:=q) (j:=0) (x:=n) (by omega) (by simpa using hn) rfl
 have pl:(bG nodes h b am aL sL D C A S').length=(bG nodes h b am aL sL D C A S).length:=by rw[fB,fB]
 subst hw;simp only[mkB]at gb;generalize bG nodes h b am aL sL D C A S=H at *
 generalize bG nodes h b am aL sL D C A S'=H2 at *
 rw[aC (KX _ _ _) Vy rfl (by simp[c39])];simp[c39,KL,aa,hget,aQ,n1,gb,hia,k88,pl]
theorem Mo(n:Nd)(hn:nodes.l[0]?=some n)(hk:n.k=5->n.num≠(n.kids.l.length:Int))(h:Heap)(m:Pls nodes (au us l) j0 Q h b am aL sL)(A S:List Pt)(f:Fm)(A':List Pt)
  (k88:∀F:List Blk,(mu K).fn 88 [.ptr b 0,n.av] (F::bG nodes h b am aL sL D C A S)=some (.val (.bool false) (F::bG nodes h b am aL sL D C A S)))
  (k89:∀F:List Blk,(mu K).fn 89 [.ptr b 0,iV 0] (F::bG nodes h b am aL sL D C A S)=some (.val (fA f) (F::bG nodes h b am aL sL D C A' S))) :
  (mu K).fn 39 [.ptr b 0,iV 0] (bG nodes h b am aL sL D C A S)=some (.val (fA f) (bG nodes h b am aL sL D C A' S)):=by
 obtain⟨n1,n2,n3,n4,n5,n6⟩:=sU nodes j0 Q h b am aL sL D C m A S;have gb:=rH nodes (au us l) j0 Q h b am aL sL D C m A S;have hia:=λ(q:IntKind)=>cK (av:=Nd.av) (sz:=6) (s:=nodes) (k:=q) (j:=0) (x:=n) (by omega) (by simpa using hn) rfl
 have pl:(bG nodes h b am aL sL D C A' S).length=(bG nodes h b am aL sL D C A S).length:=by rw[fB,fB]
 simp only[mkB]at gb;have fg:fA f=.agg [.lst ((flF 0 0 f).map Gt.av)]:=rfl;generalize bG nodes h b am aL sL D C A S=H at *
 generalize bG nodes h b am aL sL D C A' S=H2 at *
 rw[aC (KX _ _ _) Vy rfl (by simp[c39])];rw[fg]at k89⊢;by_cases c:n.k=5
 ·obtain⟨nk,nn,nm1,nm2,nks,np⟩:=n;simp only at c hk;subst c;have c2:(nn=(nks.l.length:Int))=False:=eq_false (hk rfl);simp[c39,KL,aa,hget,aQ,n1,gb,hia,k88,k89,pl,c2]
 ·simp[c39,KL,aa,hget,aQ,n1,gb,hia,k88,k89,pl,c]
theorem Uf(ks:List Cd)(hne:2<=ks.length)(hk:∀c∈ks,NF us l Q c)(hat:At nodes.l 0 (flat 0 (.gate (ks.length:Int) ks)))(hz:Cd.sizes ks<=379)(h:Heap)(m:Pls nodes (au us l) j0 Q h b am aL sL)(A S:List Pt)(hA:A.length<=1000)(hS:S.length<=1000) :
  (mu K).fn 39 [.ptr b 0,iV 0] (bG nodes h b am aL sL D C A S)=some (.val (oA (FA (bZ j0 (au us l) (narrow j0 (au us l) ks))))
   (bG nodes h b am aL sL D C (A++bF j0 (au us l) (narrow j0 (au us l) ks)) (S++ks.filterMap (bH j0 (au us l))))):=by
 have hlen:=m.len;have hf:=m.hf;obtain⟨a0,a1⟩:=gA hat;have hkl:ks.length<=Cd.sizes ks:=cZ ks;have hfl:∀j4 c s,ks=j4++c::s->At nodes.l (0+1+Cd.sizes j4) (flat (0+1+Cd.sizes j4) c):=λj4 c s hh=>by
  have a2:=a1;rw[hh]at a2;exact rB j4 (0+1) c s a2
 have hsz:∀j4 c s,ks=j4++c::s->Cd.sizes j4+c.size<=Cd.sizes ks∧j4.length<=ks.length:=λj4 c s hh=>by
  rw[hh,eH];simp only[Cd.sizes,afr,Io];omega
 obtain⟨j3,k1,x4,x6⟩:=IG j0 (au us l) b nodes (λA S=>bG nodes h b am aL sL D C A S) h.length (λA S=>fB nodes h b am aL sL D C A S) hlen
  (λA S=>⟨0,_,rH nodes (au us l) j0 Q h b am aL sL D C m A S,rfl⟩) (eD m.db) 0 (cj 0 (ks.length:Int) ks).av ks (by omega) (by omega) A S
  (λj4 c s hh Fr=>⟨wE (hfl j4 c s hh),by
   have hw:(j4.filterMap (bH j0 (au us l))).length<=j4.length:=List.length_filterMap_le _ _;have:=hsz j4 c s hh;rw[fC nodes j0 Q b am aL sL D C h m,fC nodes j0 Q b am aL sL D C h m];exact f88 nodes j0 Q hQ b am aL sL D C c _ (hk c (by rw[hh];simp)) (hfl j4 c s hh) (Fr::h) (Pls.push nodes j0 Q b am aL sL h m Fr) _ _ (by rw[afr];omega)⟩)
  (λj4 c s hh Fr S=>by
   have hs:=hsz j4 c s hh;have h1:=eI j0 (au us l) (narrow j0 (au us l) j4);have h2:=dS j0 (au us l) j4;rw[fC nodes j0 Q b am aL sL D C h m,fC nodes j0 Q b am aL sL D C h m];exact f89 nodes j0 Q hQ b am aL sL D C c _ (hk c (by rw[hh];simp)) (hfl j4 c s hh) (by omega) (by omega) (Fr::h) (Pls.push nodes j0 Q b am aL sL h m Fr) _ S (by rw[afr];omega)) ks [] rfl
 obtain⟨n1,n2,n3,n4,n5,n6⟩:=sU nodes j0 Q h b am aL sL D C m A S;have gb:=rH nodes (au us l) j0 Q h b am aL sL D C m A S;have hia:=λ(q:IntKind)=>cK (av:=Nd.av) (sz:=6) (s:=nodes) (k:=q) (j:=0) (x:=cj 0 (ks.length:Int) ks) (by omega) (by simpa using a0) rfl
 have ek:(cj 0 (ks.length:Int) ks).kids.avS iV=.lst ((starts (0+1) ks).map iV):=by
  simp only[cj,Sl.avS];rw[gu];intro e;have:=congrArg List.length e;rw[afv,bJ]at this;simp at this;rw[this]at hne;simp at hne
 have pd:(cj 0 (ks.length:Int) ks).av=.agg [iV 5,iV (ks.length:Int),.str [],.str [],.lst ((starts (0+1) ks).map iV),iV 0]:=by
  show AV.agg [iV 5,iV (ks.length:Int),.str [],.str [],(cj 0 (ks.length:Int) ks).kids.avS iV,iV 0]=_;rw[ek]
 have k88:=JR nodes j0 Q ([Blk.box 34 false (.agg [.ay]),.box 90 false (cj 0 (ks.length:Int) ks).av]::h) b am aL sL D C (Pls.push nodes j0 Q b am aL sL h m _) (cj 0 (ks.length:Int) ks) (by simp[cj]) A S;rw[<-fC nodes j0 Q b am aL sL D C h m]at k88;have sl:(starts (0+1) ks).length=ks.length:=bJ _ _;have pl:(bG nodes h b am aL sL D C A S).length=h.length:=fB nodes h b am aL sL D C A S;have pl2:(bG nodes h b am aL sL D C (A++bF j0 (au us l) (narrow j0 (au us l) ks)) (S++ks.filterMap (bH j0 (au us l)))).length=h.length:=fB nodes h b am aL sL D C _ _;obtain⟨ot,oz,ho,hz2⟩:=uT (bZ j0 (au us l) (narrow j0 (au us l) ks));have lf:(bZ j0 (au us l) (narrow j0 (au us l) ks)).length=(narrow j0 (au us l) ks).length:=fR _ _ _;have e0:bF j0 (au us l) []=[]:=rfl;have e1:bZ j0 (au us l) []=[]:=rfl;have e2:narrow j0 (au us l) []=[]:=rfl;have hnar:∀c∈narrow j0 (au us l) ks,NF us l Q c:=λc hc=>hk c (Cx hc)
 obtain⟨o1,o2,o3⟩:=kP (j0:=j0) hf (narrow j0 (au us l) ks) hnar;have hns:=dS j0 (au us l) ks;have hnp:=eI j0 (au us l) (narrow j0 (au us l) ks);have k90:=f90 ((bZ j0 (au us l) (narrow j0 (au us l) ks)).length:Int) (bZ j0 (au us l) (narrow j0 (au us l) ks));rw[ho,pd]at k1;rw[pd]at hia k88;simp only[e0,e1,e2,afz,fmB,iO,List.filterMap_nil]at k1;simp only[mkB]at gb;rw[pl]at n1 n4;generalize bG nodes h b am aL sL D C A S=H at *
 generalize bG nodes h b am aL sL D C (A++bF j0 (au us l) (narrow j0 (au us l) ks)) (S++ks.filterMap (bH j0 (au us l)))=H2 at *
 have hml:(narrow j0 (au us l) ks).length=(bZ j0 (au us l) (narrow j0 (au us l) ks)).length:=lf.symm;rw[hml]at x6;generalize hFS:bZ j0 (au us l) (narrow j0 (au us l) ks)=afi at *
 rw[aC (KX _ _ _) Vy rfl (by simp[c39])];simp at k1
 match afi,hFS with
 | [],hFS=>
  simp[c39,KL,aa,hget,aQ,n1,pl,pl2,gb,hia,k1,k88,x4,x6,sl,FA,oA]
 | [f],hFS=>
  have ho':Blk.arr 34 1 false ([f].map fA)=.arr ot oz false ([f].map fA):=ho;injection ho' with z1 z2
  subst z1 z2;have fg:fA f=.agg [.lst ((flF 0 0 f).map Gt.av)]:=rfl;simp only[FA,oA];simp only[afj,afw,fg]at k1⊢;simp[c39,KL,aa,hget,aQ,n1,pl,pl2,gb,hia,k1,k88,x4,x6,sl]
 |f::g::r,hFS=>
  have k90:=k90 (by simp only[Io];omega) (Int.le_refl _) (Fm.jd.1 o1) (by omega) (by omega);simp only[FA,oA];have q1:((r.length:Int)+1+1=0)=False:=eq_false (by omega);have q2:((r.length:Int)+1+1=1)=False:=eq_false (by omega);have q3:((r.length:Int)+1=0)=False:=eq_false (by omega);generalize hN:Fm.gate ((f::g::r).length:Int) (f::g::r)=FG at *
  have fg:fA FG=.agg [.lst ((flF 0 0 FG).map Gt.av)]:=rfl;rw[fg]at k90⊢;simp at k90;simp[c39,KL,aa,hget,aQ,n1,pl,pl2,gb,hia,k1,k88,x4,x6,sl,q1,q2,k90]
theorem f39(c:Cd)(hc:NF us l Q c)(hat:At nodes.l 0 (flat 0 c))(hz:c.size<=380)(h:Heap)(m:Pls nodes (au us l) j0 Q h b am aL sL)(A S:List Pt)(hA:A.length<=1000)(hS:S.length<=1000) :
  (mu K).fn 39 [.ptr b 0,iV 0] (bG nodes h b am aL sL D C A S)=some (.val (oA (fO j0 (au us l) c).2.2) (bG nodes h b am aL sL D C (A++(fO j0 (au us l) c).1) (S++(fO j0 (au us l) c).2.1))):=by
 have hn:=wE hat;have k88:∀F:List Blk,(mu K).fn 88 [.ptr b 0,(cM 0 c).av] (F::bG nodes h b am aL sL D C A S)=some (.val (.bool (bH j0 (au us l) c).isSome) (F::bG nodes h b am aL sL D C A (S++(bH j0 (au us l) c).toList))):=λF=>by
  rw[fC nodes j0 Q b am aL sL D C h m,fC nodes j0 Q b am aL sL D C h m];exact f88 nodes j0 Q hQ b am aL sL D C c 0 hc hat (F::h) (Pls.push nodes j0 Q b am aL sL h m F) A S (by omega)
 have k89:∀F:List Blk,(mu K).fn 89 [.ptr b 0,iV 0] (F::bG nodes h b am aL sL D C A S)=some (.val (fA (fmC j0 (au us l) c)) (F::bG nodes h b am aL sL D C (A++kQ j0 (au us l) c) S)):=λF=>by
  rw[fC nodes j0 Q b am aL sL D C h m,fC nodes j0 Q b am aL sL D C h m];exact f89 nodes j0 Q hQ b am aL sL D C c 0 hc hat hz (by omega) (F::h) (Pls.push nodes j0 Q b am aL sL h m F) A S (by omega)
 unfold fO;cases hw:bH j0 (au us l) c with
 |some a=>
  rw[hw]at k88;simp only[afz,oA];exact N7 nodes j0 Q hQ b am aL sL D C c _ hn h m A S true (S++[a]) k88 rfl
 |none=>
  rw[hw]at k88;simp only[agL,Option.toList_none,afz]at k88;cases c with
  |atom k num vs=>
   simp only[afz,oA];refine Mo nodes j0 Q hQ b am aL sL D C _ hn (λq=>?_) h m A S _ _ k88 k89;obtain⟨_,_,_,_,_,_,_,_,_,h67,_⟩:=jT (j0:=j0) m.hf hc;simp only[cM,br]at q;omega
  |gate j5 ks=>
   simp only;by_cases e:j5=(ks.length:Int)
   ·rw[if_pos e];subst e;simp only[Cd.size]at hz;exact Uf nodes j0 Q hQ b am aL sL D C ks hc.1 (λc hc'=>(eK.1 hc.2.2.2 c hc').1) hat (by omega) h m A S hA hS
   ·rw[if_neg e];simp only[afz,oA];refine Mo nodes j0 Q hQ b am aL sL D C _ hn (λ_=>?_) h m A S _ _ k88 k89;simp only[cM,cj,bJ];exact e
end
structure RPl (q:Po)(l:Sl Sc)(j0:List Rf)(h:Heap)(b aL sL:Loc):Prop where
 hq:Sz q
 hl:okL l
 hr:bz q l.l=0
 rl:j0.length<=1000000
 hf:∀n,FdW (au q.uses.l l.l n)
 len:q.nodes.l.length<=1000
 db:dom h b
 da:dom h aL
 ds:dom h sL
 ba:b≠aL
 bs:b≠sL
 asn:aL≠sL
 lea:aL.1<=b.1
 les:sL.1<=b.1
theorem RPl.push{q:Po}{l:Sl Sc}{j0:List Rf}{h:Heap}{b aL sL:Loc}(m:RPl q l j0 h b aL sL)(F:List Blk):RPl q l j0 (F::h) b aL sL:=by
 obtain⟨hq,hl,hr,rl,hf,len,db,da,ds,ba,bs,asn,lea,les⟩:=m;exact⟨hq,hl,hr,rl,hf,len,kZ db,kZ da,kZ ds,ba,bs,asn,lea,les⟩
section
variable(q:Po)(l:Sl Sc)(j0:List Rf)(h:Heap)(b aL sL:Loc)(D C:AV)
abbrev mkQ(an sn:Nat):Blk:=mkR q l j0 [D,C,.own aL an,.ay,.own sL sn,.bool false]
def bE(A S:List Pt):Heap:=aQ (aQ (aQ h aL (ptB A)) sL (ptB S)) b (mkQ q l j0 aL sL D C A.length S.length)
theorem fQ(A S:List Pt):(bE q l j0 h b aL sL D C A S).length=h.length:=by simp[bE,bp]
variable(m:RPl q l j0 h b aL sL)
include m
theorem xO(A S:List Pt):hget (bE q l j0 h b aL sL D C A S) b=some (mkQ q l j0 aL sL D C A.length S.length):=by
 unfold bE;rw[fq];exact oa (oa m.db)
theorem XE(A S:List Pt):hget (bE q l j0 h b aL sL D C A S) aL=some (ptB A):=by
 unfold bE;rw[cW m.ba,cW m.asn.symm,fq m.da]
theorem PF(A S:List Pt):hget (bE q l j0 h b aL sL D C A S) sL=some (ptB S):=by
 unfold bE;rw[cW m.bs,fq];exact oa m.ds
theorem N8(A A' S:List Pt):aQ (aQ (bE q l j0 h b aL sL D C A S) aL (ptB A')) b (mkQ q l j0 aL sL D C A'.length S.length)=bE q l j0 h b aL sL D C A' S:=by
 unfold bE;rw[jH _ b aL _ _ m.ba,cO,jH _ sL aL _ _ m.asn.symm,cO]
theorem Em(A S S':List Pt):aQ (aQ (bE q l j0 h b aL sL D C A S) sL (ptB S')) b (mkQ q l j0 aL sL D C A.length S'.length)=bE q l j0 h b aL sL D C A S':=by
 unfold bE;rw[jH _ b sL _ _ m.bs,cO,cO]
theorem N9(A S:List Pt):aQ (bE q l j0 h b aL sL D C A S) b (mkQ q l j0 aL sL D C A.length S.length)=bE q l j0 h b aL sL D C A S:=by
 unfold bE;rw[cO]
theorem sN(A S:List Pt):RM q l j0 [D,C,.own aL A.length,.ay,.own sL S.length,.bool false] (bE q l j0 h b aL sL D C A S) b:=
 ⟨m.hq,m.hl,m.hr,m.rl,m.hf,xO q l j0 h b aL sL D C m A S⟩
theorem kY(F:List Blk)(A S:List Pt):F::bE q l j0 h b aL sL D C A S=bE q l j0 (F::h) b aL sL D C A S:=by
 have h1:=eD m.db;have h2:=eD m.da;have h3:=eD m.ds;have n1:¬ b.1=h.length:=by omega
 have n2:¬ aL.1=h.length:=by omega
 have n3:¬ sL.1=h.length:=by omega
 unfold bE;simp[aQ,n1,n2,n3,bp]
theorem wC(A S:List Pt):(b.1=(bE q l j0 h b aL sL D C A S).length)=False∧(aL.1=(bE q l j0 h b aL sL D C A S).length)=False∧(sL.1=(bE q l j0 h b aL sL D C A S).length)=False ∧
  ((bE q l j0 h b aL sL D C A S).length=b.1)=False∧((bE q l j0 h b aL sL D C A S).length=aL.1)=False∧((bE q l j0 h b aL sL D C A S).length=sL.1)=False:=by
 have h1:=eD m.db;have h2:=eD m.da;have h3:=eD m.ds;rw[fQ];refine⟨?_,?_,?_,?_,?_,?_⟩<;>(simp;omega)
theorem f99(j5:Int)(fs:List Fm)(h1:1<=j5)(h2:j5<=(fs.length:Int))(hok:∀f∈fs,f.ok)(hs:Fm.sizes fs+1<=512)(hl':Fm.cU fs<=256)(A S:List Pt) :
  (mu K).fn 99 [.ptr b 0,iV j5,.lst (fs.map fA)] (bE q l j0 h b aL sL D C A S)=some (.val (fA (.gate j5 fs)) (bE q l j0 h b aL sL D C A S)):=by
 have k:=λh=>f161 j5 fs h1 h2 hok hs hl' h
 obtain⟨n1,n2,n3,n4,n5,n6⟩:=wC q l j0 h b aL sL D C m A S;have gb:=xO q l j0 h b aL sL D C m A S;have st:=N9 q l j0 h b aL sL D C m A S;have fg:fA (.gate j5 fs)=.agg [.lst ((flF 0 0 (.gate j5 fs)).map Gt.av)]:=rfl;generalize hH:bE q l j0 h b aL sL D C A S=H at *
 rw[fg]at k⊢;rw[aC (KX _ _ _) ad2 rfl (by simp[c99])];simp only[mkQ,mkR,Po.cs,afo,afq]at gb st;simp[c99,KL,aa,hget,aQ,n1,gb,k,st]
end
theorem Ug{A P:List Pt}(hP:P≠[]):ptB (A++P)=.arr 56 5 false (A.map Pt.av++P.map Pt.av):=by
 cases e:A++P with
 |nil=>simp at e;exact absurd e.2 hP
 |cons x r=>
  simp only[ptB];rw[<-e,afE]
section
variable(q:Po)(l:Sl Sc)(j0:List Rf)(Q:Nd->Prop)(hQ:∀v,Q v->Q (aM v))(b aL sL:Loc)(D C:AV)
theorem Ho{k:Int}(hk:k=6∨k=7)(P:List Pt)(hP:P.length=1∨P.length=2)(b0:Nat)(n:Nd)(hnk:n.k=k)(hn:q.nodes.l[b0]?=some n)(top:Bool)(h:Heap)(m:RPl q l j0 h b aL sL)(A S:List Pt)(hA:A.length<=100000)
  (hw:top=true->∀F:List Blk,(mu K).fn 97 [.ptr b 0,iV (b0:Int)] (F::bE q l j0 h b aL sL D C A S)=some (.val (.bool false) (F::bE q l j0 h b aL sL D C A S)))
  (k98:∀F:List Blk,(mu K).fn 98 [.ptr b 0,iV (b0:Int)] (F::bE q l j0 h b aL sL D C A S)=some (.val (.lst (P.map Pt.av)) (F::bE q l j0 h b aL sL D C A S))) :
  (mu K).fn 43 [.ptr b 0,iV (b0:Int),.bool top] (bE q l j0 h b aL sL D C A S)=some (.val (fA (fmA P)) (bE q l j0 h b aL sL D C (A++P) S)):=by
 have hlen:=m.len;have hb0:b0<q.nodes.l.length:=(aft.1 hn).1;obtain⟨n1,n2,n3,n4,n5,n6⟩:=wC q l j0 h b aL sL D C m A S;have gb:=xO q l j0 h b aL sL D C m A S;have gs:=XE q l j0 h b aL sL D C m A S;have st:=N8 q l j0 h b aL sL D C m A (A++P) S;have hia:=λ(k':IntKind)=>cK (av:=Nd.av) (sz:=6) (s:=q.nodes) (k:=k') (j:=(b0:Int)) (x:=n) (by omega) (by simpa using hn) rfl
 have r1:(A.length+P.length)*40<=room:=by unfold room;omega
 have r2:A.length+P.length<=room:=by unfold room;omega
 obtain⟨ot,oz,ho,hz⟩:=jD A;have ho2:ptB (A++P)=.arr 56 5 false (A.map Pt.av++P.map Pt.av):=Ug (λe=>by rw[e]at hP;simp at hP);have k5:(n.k=5)=False:=eq_false (by omega);have q3:=ak _ bX q.nodes;have qn:=ak _ aP n.kids;have k99:=λF=>f99 q l j0 (F::h) b aL sL D C (m.push F) 1 [.leaf,.leaf] (by decide) (by decide) (by simp[Fm.ok]) (by decide) (by decide) (A++P) S
 simp only[afj,afw,wM,<-kY q l j0 h b aL sL D C m]at k99;have Uh:=f100;have lea:=m.lea;have sz:sized 5 (P.map Pt.av)=true:=by simp[sized]
 have ob:=λX=>cW (h:=bE q l j0 h b aL sL D C A S) (agh m.ba) X
 have pl:(bE q l j0 h b aL sL D C (A++P) S).length=(bE q l j0 h b aL sL D C A S).length:=by rw[fQ,fQ]
 generalize hH:bE q l j0 h b aL sL D C A S=H at *
 simp only[mkQ,mkR,Po.cs,afo,afq]at gb st;rw[ho]at gs;rw[ho2,afr]at st;rw[aC (KX _ _ _) VA rfl (by simp[c43])];unfold fmA;have fg:fA (.gate 1 [.leaf,.leaf])=.agg [.lst ((flF 0 0 (.gate 1 [.leaf,.leaf])).map Gt.av)]:=rfl;cases top
 ·rcases hP with hP|hP
  ·rw[if_pos hP,wM];rw[hP]at r1 r2 st;simp[c43,KL,aa,hget,aQ,n1,n2,gb,hia,k5,k98,gs,ob,st,r1,r2,hz,hP,Uh,lea,pl]
  ·have hP1:¬ P.length=1:=by omega
   rw[if_neg hP1,fg];rw[hP]at r1 r2 st;rw[fg]at k99;simp[c43,KL,aa,hget,aQ,n1,n2,gb,hia,k5,k98,gs,ob,st,r1,r2,hz,hP,Uh,lea,k99,pl,List.replicate]
 ·have hw:=hw rfl;rcases hP with hP|hP
  ·rw[if_pos hP,wM];rw[hP]at r1 r2 st;simp[c43,KL,aa,hget,aQ,n1,n2,gb,hia,k5,k98,hw,gs,ob,st,r1,r2,hz,hP,Uh,lea,pl]
  ·have hP1:¬ P.length=1:=by omega
   rw[if_neg hP1,fg];rw[hP]at r1 r2 st;rw[fg]at k99;simp[c43,KL,aa,hget,aQ,n1,n2,gb,hia,k5,k98,hw,gs,ob,st,r1,r2,hz,hP,Uh,lea,k99,pl,List.replicate]
end
