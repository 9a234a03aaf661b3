/-
  The reference's maker: a range that is proved by squares; the kids of a gate.
-/
import Derived.Test.YtjnomgdildcbhaaGreatDoorAb4dU10
import Derived.Test.YtjnomgdildcbhaaGreatDoorAb4dS21
import Derived.Test.YtjnomgdildcbhaaGreatDoorAb4dP22
set_option linter.all false
set_option maxRecDepth 100000
set_option maxHeartbeats 4000000
namespace Go.Ab.Pn
open Go.Ab.Pol
section
variable(q:Po)(l:Sl Sc)(j0:List Rf)(Q:Nd->Prop)(hQ:∀v,Q v->Q (aM v))(b aL sL:Loc)(D C:AV)
theorem PE(a:Pt)(b0:Nat)(n:Nd)(hnk:n.k=7)(hn:q.nodes.l[b0]?=some n)(h:Heap)(m:RPl q l j0 h b aL sL)(A S:List Pt)(hS:S.length<=100000)
  (hw:∀F:List Blk,(mu K).fn 97 [.ptr b 0,iV (b0:Int)] (F::bE q l j0 h b aL sL D C A S)=some (.val (.bool true) (F::bE q l j0 h b aL sL D C A S)))
  (k98:∀F:List Blk,(mu K).fn 98 [.ptr b 0,iV (b0:Int)] (F::bE q l j0 h b aL sL D C A S)=some (.val (.lst [a.av]) (F::bE q l j0 h b aL sL D C A S))) :
  (mu K).fn 43 [.ptr b 0,iV (b0:Int),.bool true] (bE q l j0 h b aL sL D C A S)=some (.val (.agg [.ay]) (bE q l j0 h b aL sL D C A (S++[a]))):=by
 obtain⟨n1,n2,n3,n4,n5,n6⟩:=wC q l j0 h b aL sL D C m A S;have gb:=xO q l j0 h b aL sL D C m A S;have gs:=PF q l j0 h b aL sL D C m A S;have st:=Em q l j0 h b aL sL D C m A S (S++[a]);have hia:=λ(k':IntKind)=>cK (av:=Nd.av) (sz:=6) (s:=q.nodes) (k:=k') (j:=(b0:Int)) (x:=n) (by omega) (by simpa using hn) rfl
 have r1:(S.length+1)*40<=room:=by unfold room;omega
 have r2:S.length+1<=room:=by unfold room;omega
 obtain⟨ot,oz,ho,hz⟩:=jD S;have ho2:=wD S a;have k5:(n.k=5)=False:=eq_false (by omega);have q3:=ak _ bX q.nodes;have qn:=ak _ aP n.kids;have les:=m.les;have ob:=λX=>cW (h:=bE q l j0 h b aL sL D C A S) (agh m.bs) X
 have pl:(bE q l j0 h b aL sL D C A (S++[a])).length=(bE q l j0 h b aL sL D C A S).length:=by rw[fQ,fQ]
 generalize hH:bE q l j0 h b aL sL D C A S=H at *
 simp only[mkQ,mkR,Po.cs,afo,afq]at gb st;rw[ho]at gs;rw[ho2]at st;simp only[afr,Io,iO,afu]at st;rw[aC (KX _ _ _) VA rfl (by simp[c43])];simp[c43,KL,aa,hget,aQ,n1,n3,gb,hia,k5,k98,hw,gs,ob,st,r1,r2,hz,les,pl]
end
section
variable(j0:List Rf)(fd:Nd->Pol.Fd)(b:Loc)(H:List Pt->List Pt->Heap)(N:Nat)(hN:∀A S,(H A S).length=N)(hbn:b.1<N)
def jE(all:Bool)(ks:List Cd):List Cd:=if all=true then narrow j0 fd ks else ks
def xP(all:Bool)(ks:List Cd):List Pt:=if all=true then ks.filterMap (bH j0 fd) else []
include hN hbn
theorem LI(n:Nd)(eU:List Int)(hk:n.kids.avS iV=.lst (eU.map iV))(all:Bool)(i:Nat)(at_:Int)(hat:eU[i]?=some at_)(hi:eU.length<=1000)(afi:List Fm)(f:Fm)(A S A':List Pt)(hf:afi.length<=1000)
  (k97:all=true->∀Fr:List Blk,(mu K).fn 97 [.ptr b 0,iV at_] (Fr::H A S)=some (.val (.bool false) (Fr::H A S)))
  (k43:∀Fr:List Blk,(mu K).fn 43 [.ptr b 0,iV at_,.bool false] (Fr::H A S)=some (.val (fA f) (Fr::H A' S))) :
  (mu K).code (.af 3 [0,6,7,8,9,10] mJ) ⟨[(0,.ptr b 0),(6,.ptr (N,0) 0),(7,.ptr (N,1) 0),(8,.bool all),(9,.own (N,2) afi.length),(10,iV (i:Int))],[.box 34 false (.agg [.ay]),.box 90 false n.av,fmB afi]::H A S⟩ =
  (mu K).code (.af 3 [0,6,7,8,9,10] mJ) ⟨[(0,.ptr b 0),(6,.ptr (N,0) 0),(7,.ptr (N,1) 0),(8,.bool all),(9,.own (N,2) (afi.length+1)),(10,iV ((i+1:Nat):Int))],[.box 34 false (.agg [.ay]),.box 90 false n.av,fmB (afi++[f])]::H A' S⟩:=by
 have hil:i<eU.length:=(aft.1 hat).1;have c1:((i:Int)<(eU.length:Int))=True:=eq_true (by omega);have c2:(i<eU.length)=True:=eq_true hil;have e1:∀(k:IntKind),iaF 1 (.lst (eU.map iV)) (.int k (i:Int))=some (.eF (iV at_) 0):=λk=>cG (by omega) (by rw[afM,afy,hat];rfl) rfl
 have w1:=wrS (n:=i) (by omega);have r1:(afi.length+1)*24<=room:=by unfold room;omega
 have r2:afi.length+1<=room:=by unfold room;omega
 have nb:(b.1=N)=False:=eq_false (by omega);have n0:=hN A S;have n1:=hN A' S;obtain⟨ot,oz,ho,hz2⟩:=uT afi;have hs:=Ci afi f;rw[ho,hs];have pd:n.av=.agg [iV n.k,iV n.num,.str n.nm,.str n.attr,.lst (eU.map iV),iV n.pos]:=by rw[<-hk]
 rw[pd];rw[show ((i+1:Nat):Int)=(i:Int)+1 by omega];rw[aj];generalize (mu K).code _=F;cases all
 ·simp[mJ,KL,aa,c1,e1,k43,w1,n0,n1,hget,r1,r2,hz2,nW,xQ,AR,List.replicate]
 ·have k97:=k97 rfl;simp[mJ,KL,aa,c1,e1,k43,k97,w1,n0,n1,hget,r1,r2,hz2,nW,xQ,AR,List.replicate]
end
section
variable(q:Po)(l:Sl Sc)(j0:List Rf)(b aL sL:Loc)(D C:AV)
theorem Tv(h:Heap)(m:RPl q l j0 h b aL sL)(n:Nd)(eU:List Int)(hk:n.kids.avS iV=.lst (eU.map iV))(i:Nat)(at_:Int)(hat:eU[i]?=some at_)(hi:eU.length<=1000)(afi:List Fm)(a:Pt)(A S:List Pt)(hS:S.length<=100000)
  (k97:∀Fr:List Blk,(mu K).fn 97 [.ptr b 0,iV at_] (Fr::bE q l j0 h b aL sL D C A S)=some (.val (.bool true) (Fr::bE q l j0 h b aL sL D C A S)))
  (k98:∀Fr:List Blk,(mu K).fn 98 [.ptr b 0,iV at_] (Fr::bE q l j0 h b aL sL D C A S)=some (.val (.lst [a.av]) (Fr::bE q l j0 h b aL sL D C A S))) :
  (mu K).code (.af 3 [0,6,7,8,9,10] mJ) ⟨[(0,.ptr b 0),(6,.ptr (h.length,0) 0),(7,.ptr (h.length,1) 0),(8,.bool true),(9,.own (h.length,2) afi.length),(10,iV (i:Int))],[.box 34 false (.agg [.ay]),.box 90 false n.av,fmB afi]::bE q l j0 h b aL sL D C A S⟩ =
  (mu K).code (.af 3 [0,6,7,8,9,10] mJ) ⟨[(0,.ptr b 0),(6,.ptr (h.length,0) 0),(7,.ptr (h.length,1) 0),(8,.bool true),(9,.own (h.length,2) afi.length),(10,iV ((i+1:Nat):Int))],[.box 34 false (.agg [.ay]),.box 90 false n.av,fmB afi]::bE q l j0 h b aL sL D C A (S++[a])⟩:=by
 have hil:i<eU.length:=(aft.1 hat).1;have c1:((i:Int)<(eU.length:Int))=True:=eq_true (by omega);have c2:(i<eU.length)=True:=eq_true hil;have e1:∀(k:IntKind),iaF 1 (.lst (eU.map iV)) (.int k (i:Int))=some (.eF (iV at_) 0):=λk=>cG (by omega) (by rw[afM,afy,hat];rfl) rfl
 have w1:=wrS (n:=i) (by omega);obtain⟨n1,n2,n3,n4,n5,n6⟩:=wC q l j0 h b aL sL D C m A S;have gb:=xO q l j0 h b aL sL D C m A S;have gs:=PF q l j0 h b aL sL D C m A S;have st:=Em q l j0 h b aL sL D C m A S (S++[a]);have r1:(S.length+1)*40<=room:=by unfold room;omega
 have r2:S.length+1<=room:=by unfold room;omega
 obtain⟨ot,oz,ho,hz⟩:=jD S;have ho2:=wD S a;have les:=m.les;have lb:=eD m.db;have ls:=eD m.ds;have ob:=λX=>cW (h:=bE q l j0 h b aL sL D C A S) (agh m.bs) X
 have pl0:(bE q l j0 h b aL sL D C A S).length=h.length:=fQ q l j0 h b aL sL D C A S;have pl:(bE q l j0 h b aL sL D C A (S++[a])).length=h.length:=fQ q l j0 h b aL sL D C A (S++[a]);have nb1:(b.1=h.length)=False:=eq_false (by omega);have nb2:(sL.1=h.length)=False:=eq_false (by omega);have nb3:(h.length=b.1)=False:=eq_false (by omega);have nb4:(h.length=sL.1)=False:=eq_false (by omega);have pd:n.av=.agg [iV n.k,iV n.num,.str n.nm,.str n.attr,.lst (eU.map iV),iV n.pos]:=by rw[<-hk]
 obtain⟨ft,fz,fo,_⟩:=uT afi;rw[fo,pd];generalize hH:bE q l j0 h b aL sL D C A S=H at *
 simp only[mkQ,mkR,Po.cs,afo,afq]at gb st;rw[ho]at gs;rw[ho2]at st;simp only[afr,Io,iO,afu]at st;rw[show ((i+1:Nat):Int)=(i:Int)+1 by omega];rw[aj];generalize (mu K).code _=F;simp[mJ,KL,aa,c1,e1,k97,k98,w1,hget,aQ,pl0,pl,nb1,nb2,gb,gs,ob,st,r1,r2,hz,les]
end
theorem dS(j0:List Rf)(fd:Nd->Pol.Fd):∀ks:List Cd,Cd.sizes (narrow j0 fd ks)<=Cd.sizes ks
 | []=>by simp[narrow,Cd.sizes]
 |c::ks=>by
  have:=dS j0 fd ks;unfold narrow at this⊢;rw[List.filter_cons];split
  ·simp only[Cd.sizes];omega
  ·simp only[Cd.sizes];omega
theorem JL(j0:List Rf)(fd:Nd->Pol.Fd)(all:Bool)(ks:List Cd):Cd.sizes (jE j0 fd all ks)<=Cd.sizes ks:=by
 unfold jE;cases all
 ·simp
 ·exact dS j0 fd ks
theorem Ny(j0:List Rf)(fd:Nd->Pol.Fd)(all:Bool)(ks:List Cd)(c:Cd):jE j0 fd all (ks++[c])=jE j0 fd all ks++(if all=true∧(bH j0 fd c).isSome=true then [] else [c]):=by
 unfold jE;cases all
 ·simp
 ·simp only[if_true,true_and];unfold narrow;rw[List.filter_append]
  congr 1
  cases e:bH j0 fd c<;>simp[e]
theorem Nz(j0:List Rf)(fd:Nd->Pol.Fd)(all:Bool)(ks:List Cd)(c:Cd):xP j0 fd all (ks++[c])=xP j0 fd all ks++(if all=true then (bH j0 fd c).toList else []):=by
 unfold xP;cases all
 ·simp
 ·simp only[if_true];rw[List.filterMap_append];cases e:bH j0 fd c<;>simp[e]
theorem PG(j0:List Rf)(fd:Nd->Pol.Fd)(all:Bool)(ks:List Cd):(xP j0 fd all ks).length<=ks.length:=by
 unfold xP;cases all
 ·simp
 ·simp only[if_true];exact List.length_filterMap_le _ _
theorem PI(j0:List Rf)(fd:Nd->Pol.Fd)(all:Bool)(ks:List Cd):(jE j0 fd all ks).length<=ks.length:=by
 unfold jE;cases all
 ·simp
 ·exact ag0 _ _
section
variable(q:Po)(l:Sl Sc)(j0:List Rf)(b aL sL:Loc)(D C:AV)
theorem Cj(h:Heap)(m:RPl q l j0 h b aL sL)(b0:Nat)(n:Nd)(ks:List Cd)(hk:n.kids.avS iV=.lst ((starts (b0+1) ks).map iV))(hkl:ks.length<=1000)(all:Bool)(A S:List Pt)(hA:A.length+Cd.sizes ks<=90000)(hS:all=true->S.length<=90000)
  (k97:all=true->∀j4 c s,ks=j4++c::s->∀(Fr:List Blk) (A S:List Pt),(mu K).fn 97 [.ptr b 0,iV ((b0+1+Cd.sizes j4:Nat):Int)] (Fr::bE q l j0 h b aL sL D C A S)=some (.val (.bool (bH j0 (au q.uses.l l.l) c).isSome) (Fr::bE q l j0 h b aL sL D C A S)))
  (k98:all=true->∀j4 c s a,ks=j4++c::s->bH j0 (au q.uses.l l.l) c=some a->∀(Fr:List Blk) (A S:List Pt),(mu K).fn 98 [.ptr b 0,iV ((b0+1+Cd.sizes j4:Nat):Int)] (Fr::bE q l j0 h b aL sL D C A S)=some (.val (.lst [a.av]) (Fr::bE q l j0 h b aL sL D C A S)))
  (k43:∀j4 c s,ks=j4++c::s->∀(Fr:List Blk) (A S:List Pt),A.length+c.size<=90000->(mu K).fn 43 [.ptr b 0,iV ((b0+1+Cd.sizes j4:Nat):Int),.bool false] (Fr::bE q l j0 h b aL sL D C A S)=some (.val (fA (fmC j0 (au q.uses.l l.l) c)) (Fr::bE q l j0 h b aL sL D C (A++kQ j0 (au q.uses.l l.l) c) S))) :
  ∀(sk pk:List Cd),ks=pk++sk->∃j3,
   (mu K).code (.af 3 [0,6,7,8,9,10] mJ) ⟨[(0,.ptr b 0),(6,.ptr (h.length,0) 0),(7,.ptr (h.length,1) 0),(8,.bool all),(9,.own (h.length,2) (jE j0 (au q.uses.l l.l) all pk).length),(10,iV (pk.length:Int))],
    [.box 34 false (.agg [.ay]),.box 90 false n.av,fmB (bZ j0 (au q.uses.l l.l) (jE j0 (au q.uses.l l.l) all pk))]::bE q l j0 h b aL sL D C (A++bF j0 (au q.uses.l l.l) (jE j0 (au q.uses.l l.l) all pk)) (S++xP j0 (au q.uses.l l.l) all pk)⟩ =
   some (.exit 0,⟨j3,[.box 34 false (.agg [.ay]),.box 90 false n.av,fmB (bZ j0 (au q.uses.l l.l) (jE j0 (au q.uses.l l.l) all ks))]::bE q l j0 h b aL sL D C (A++bF j0 (au q.uses.l l.l) (jE j0 (au q.uses.l l.l) all ks)) (S++xP j0 (au q.uses.l l.l) all ks)⟩) ∧
   get j3 0=.ptr b 0∧get j3 6=.ptr (h.length,0) 0∧get j3 7=.ptr (h.length,1) 0∧get j3 9=.own (h.length,2) (jE j0 (au q.uses.l l.l) all ks).length
 | [],pk,hh=>by
  rw[afz]at hh;have sl:(starts (b0+1) pk).length=pk.length:=bJ _ _;have pd:n.av=.agg [iV n.k,iV n.num,.str n.nm,.str n.attr,.lst ((starts (b0+1) ks).map iV),iV n.pos]:=by rw[<-hk]
  rw[pd];rw[aj];generalize (mu K).code _=F;rw[hh];simp[mJ,sl,fQ]
 |c::sk,pk,hh=>by
  obtain⟨j3,ih,x⟩:=Cj h m b0 n ks hk hkl all A S hA hS k97 k98 k43 sk (pk++[c]) (by simp[hh]);refine⟨j3,?_,x⟩;rw[<-ih];have hl:ks.length=pk.length+(sk.length+1):=by rw[hh];simp
  have hsz:Cd.sizes ks=Cd.sizes pk+(c.size+Cd.sizes sk):=by
   rw[hh,eH];simp[Cd.sizes]
  have sl:(starts (b0+1) ks).length=ks.length:=bJ _ _;have hat:(starts (b0+1) ks)[pk.length]?=some ((b0+1+Cd.sizes pk:Nat):Int):=by
   have:=sM c sk pk (b0+1);rw[<-hh]at this;exact this
  have ep:∀(cs:List Cd),bF j0 (au q.uses.l l.l) (cs++[c])=bF j0 (au q.uses.l l.l) cs++kQ j0 (au q.uses.l l.l) c:=λcs=>by
   rw[iA,iA];simp
  have ef:∀(cs:List Cd),bZ j0 (au q.uses.l l.l) (cs++[c])=bZ j0 (au q.uses.l l.l) cs++[fmC j0 (au q.uses.l l.l) c]:=λcs=>by
   rw[lT,lT];simp
  have lf:(bZ j0 (au q.uses.l l.l) (jE j0 (au q.uses.l l.l) all pk)).length=(jE j0 (au q.uses.l l.l) all pk).length:=fR _ _ _;have z1:=JL j0 (au q.uses.l l.l) all pk;have z2:=eI j0 (au q.uses.l l.l) (jE j0 (au q.uses.l l.l) all pk);have z3:=PG j0 (au q.uses.l l.l) all pk;have z4:=PI j0 (au q.uses.l l.l) all pk;rw[Ny,Nz];cases all with
  |true=>
   cases e:bH j0 (au q.uses.l l.l) c with
   |some a=>
    have PJ:=λFr A S=>k97 rfl pk c sk hh Fr A S
    rw[e]at PJ;have w:=Tv q l j0 b aL sL D C h m n (starts (b0+1) ks) hk pk.length _ hat (by omega) (bZ j0 (au q.uses.l l.l) (jE j0 (au q.uses.l l.l) true pk)) a (A++bF j0 (au q.uses.l l.l) (jE j0 (au q.uses.l l.l) true pk)) (S++xP j0 (au q.uses.l l.l) true pk)
     (by rw[afr];have:=hS rfl;omega) (λFr=>PJ Fr _ _) (λFr=>k98 rfl pk c sk a hh e Fr _ _)
    rw[lf]at w;simp only[Option.isSome_some,and_self,if_true,afz,Option.toList_some,afr,afU];rw[<-List.append_assoc];exact w
   |none=>
    have PJ:=λFr A S=>k97 rfl pk c sk hh Fr A S
    rw[e]at PJ;have w:=LI b (λA S=>bE q l j0 h b aL sL D C A S) h.length (λA S=>fQ q l j0 h b aL sL D C A S) (eD m.db) n (starts (b0+1) ks) hk true pk.length _ hat (by omega) (bZ j0 (au q.uses.l l.l) (jE j0 (au q.uses.l l.l) true pk)) (fmC j0 (au q.uses.l l.l) c)
     (A++bF j0 (au q.uses.l l.l) (jE j0 (au q.uses.l l.l) true pk)) (S++xP j0 (au q.uses.l l.l) true pk) (A++bF j0 (au q.uses.l l.l) (jE j0 (au q.uses.l l.l) true pk)++kQ j0 (au q.uses.l l.l) c) (by omega)
     (λ_ Fr=>PJ Fr _ _) (λFr=>k43 pk c sk hh Fr _ _ (by rw[afr];omega))
    rw[lf]at w;simp only[agL,afA,and_false,if_false,if_true,afz,Option.toList_none,afr,afU];rw[ep,ef,<-List.append_assoc];exact w
  |false=>
   have w:=LI b (λA S=>bE q l j0 h b aL sL D C A S) h.length (λA S=>fQ q l j0 h b aL sL D C A S) (eD m.db) n (starts (b0+1) ks) hk false pk.length _ hat (by omega) (bZ j0 (au q.uses.l l.l) (jE j0 (au q.uses.l l.l) false pk)) (fmC j0 (au q.uses.l l.l) c)
    (A++bF j0 (au q.uses.l l.l) (jE j0 (au q.uses.l l.l) false pk)) (S++xP j0 (au q.uses.l l.l) false pk) (A++bF j0 (au q.uses.l l.l) (jE j0 (au q.uses.l l.l) false pk)++kQ j0 (au q.uses.l l.l) c) (by omega)
    (λe=>by cases e) (λFr=>k43 pk c sk hh Fr _ _ (by rw[afr];omega))
   rw[lf]at w;simp only[afA,false_and,if_false,afz,afr,afU];rw[ep,ef,<-List.append_assoc];exact w
end
def zT(j5:Int)(n:Nat)(afi:List Fm):AV:=if afi.length=n then fA (.gate j5 afi) else match afi with
 | []=>.agg [.ay]
 | [f]=>fA f
 |_=>fA (.gate (afi.length:Int) afi)
section
variable(q:Po)(l:Sl Sc)(j0:List Rf)(b aL sL:Loc)(D C:AV)
theorem Ck(h:Heap)(m:RPl q l j0 h b aL sL)(b0:Nat)(j5:Int)(ks:List Cd)(hn:q.nodes.l[b0]?=some (cj b0 j5 ks))(h2:2<=ks.length)(hkl:ks.length<=1000)(h1:1<=j5)(h3:j5<=(ks.length:Int))(top all:Bool)(hall:all=(top&&decide (j5=(ks.length:Int))))
  (A S A1 S1:List Pt) (afi:List Fm) (hfull:all=false->afi.length=ks.length) (hF:afi.length<=ks.length) (hok:∀f∈afi,f.ok) (hs:Fm.sizes afi+1<=512) (hl':Fm.cU afi<=256) (j3:Env)
  (k1:(mu K).code (.af 3 [0,6,7,8,9,10] mJ) ⟨[(0,.ptr b 0),(6,.ptr (h.length,0) 0),(7,.ptr (h.length,1) 0),(8,.bool all),(9,.own (h.length,2) 0),(10,iV 0)],
    [.box 34 false (.agg [.ay]),.box 90 false (cj b0 j5 ks).av,fmB []]::bE q l j0 h b aL sL D C A S⟩ =
   some (.exit 0,⟨j3,[.box 34 false (.agg [.ay]),.box 90 false (cj b0 j5 ks).av,fmB afi]::bE q l j0 h b aL sL D C A1 S1⟩))
  (x0:get j3 0=.ptr b 0) (x6:get j3 6=.ptr (h.length,0) 0) (x7:get j3 7=.ptr (h.length,1) 0) (x9:get j3 9=.own (h.length,2) afi.length) :
  (mu K).fn 43 [.ptr b 0,iV (b0:Int),.bool top] (bE q l j0 h b aL sL D C A S)=some (.val (zT j5 ks.length afi) (bE q l j0 h b aL sL D C A1 S1)):=by
 have hlen:=m.len;have hb0:b0<q.nodes.l.length:=(aft.1 hn).1;obtain⟨n1,n2,n3,n4,n5,n6⟩:=wC q l j0 h b aL sL D C m A S;have gb:=xO q l j0 h b aL sL D C m A S;have hia:=λ(k':IntKind)=>cK (av:=Nd.av) (sz:=6) (s:=q.nodes) (k:=k') (j:=(b0:Int)) (x:=cj b0 j5 ks) (by omega) (by simpa using hn) rfl
 have q3:=ak _ bX q.nodes;have hne:ks≠[]:=λe=>by rw[e]at h2;simp at h2
 have sl:(starts (b0+1) ks).length=ks.length:=bJ _ _;have ek:(cj b0 j5 ks).kids.avS iV=.lst ((starts (b0+1) ks).map iV):=by
  simp only[cj,Sl.avS];rw[gu];intro e;have:=congrArg List.length e;rw[afv,bJ]at this;exact hne (afJ this)
 have pd:(cj b0 j5 ks).av=.agg [iV 5,iV j5,.str [],.str [],.lst ((starts (b0+1) ks).map iV),iV 0]:=by
  show AV.agg [iV 5,iV j5,.str [],.str [],(cj b0 j5 ks).kids.avS iV,iV 0]=_;rw[ek]
 have pl0:(bE q l j0 h b aL sL D C A S).length=h.length:=fQ q l j0 h b aL sL D C A S;have pl:(bE q l j0 h b aL sL D C A1 S1).length=h.length:=fQ q l j0 h b aL sL D C A1 S1;have k99:=λnd a1 a2 F=>f99 q l j0 (F::h) b aL sL D C (m.push F) nd afi a1 a2 hok hs hl' A1 S1
 simp only[<-kY q l j0 h b aL sL D C m]at k99;have fgn:∀nd,fA (.gate nd afi)=.agg [.lst ((flF 0 0 (.gate nd afi)).map Gt.av)]:=λnd=>rfl
 rw[pd]at k1 hia;rw[pl0]at n1 n4;simp only[mkQ,mkR,Po.cs,afo,afq]at gb;generalize bE q l j0 h b aL sL D C A1 S1=H2 at *
 generalize bE q l j0 h b aL sL D C A S=H at *
 obtain⟨ot,oz,ho,hz2⟩:=uT afi;rw[ho]at k1;simp only[fmB]at k1;rw[aC (KX _ _ _) VA rfl (by simp[c43])];unfold zT;by_cases cF:afi.length=ks.length
 ·rw[if_pos cF];have k:=k99 j5 h1 (by omega);rw[fgn]at k⊢;have cF':((afi.length:Int)=(ks.length:Int))=True:=eq_true (by omega);cases top
  ·simp only[agH]at hall;subst hall;simp[c43,KL,aa,hget,aQ,n1,pl0,pl,gb,hia,k1,x0,x6,x7,x9,sl,cF,k]
  ·simp only[afS]at hall;by_cases cn:j5=(ks.length:Int)
   ·rw[decide_eq_true cn]at hall;subst hall;have cn':(j5=(ks.length:Int))=True:=eq_true cn;simp[c43,KL,aa,hget,aQ,n1,pl0,pl,gb,hia,k1,x0,x6,x7,x9,sl,cF,k,cn']
   ·rw[decide_eq_false cn]at hall;subst hall;simp[c43,KL,aa,hget,aQ,n1,pl0,pl,gb,hia,k1,x0,x6,x7,x9,sl,cF,k,cn]
 ·rw[if_neg cF];have hat:all=true:=by
   cases e:all
   ·exact absurd (hfull e) cF
   ·rfl
  subst hat;have ht:top=true:=by
   cases top
   ·simp at hall
   ·rfl
  subst ht;have cn:j5=(ks.length:Int):=by simpa using hall.symm
  have cn':(j5=(ks.length:Int))=True:=eq_true cn;have cF1:((afi.length:Int)=(ks.length:Int))=False:=eq_false (by omega);cases afi with
  |nil=>
   simp only[iO,afw,afl]at cF1 x9 k1;simp[c43,hget,aQ,n1,pl0,pl,gb,hia,k1,x6,x7,x9,sl,cF1,cn']
  |cons f r=>
   cases r with
   |nil=>
    have fa:fA f=.agg [.lst ((flF 0 0 f).map Gt.av)]:=rfl;have c1:((1:Int)=(ks.length:Int))=False:=eq_false (by omega);have c2:((1:Nat)=ks.length)=False:=eq_false (by omega);have oz1:oz=0∨ot=34∧oz=1:=hz2;have ho':fmB [f]=.arr 34 1 false [fA f]:=rfl;rw[ho]at ho';simp only[afj,afw]at ho';injection ho' with e1 e2 e3 e4
    subst e1 e2;simp only[Io,iO,afj,afw,afu]at cF1 x9 k1;change _=some (Out.val (fA f) H2);rw[fa]at k1⊢;simp[c43,hget,aQ,n1,pl0,pl,gb,hia,k1,x6,x7,x9,sl,cn',c1]
   |cons g r=>
    have k:=k99 ((f::g::r).length:Int) (by simp only[Io];omega) (by omega);have c0:(((f::g::r).length:Int)=0)=False:=eq_false (by simp only[Io];omega);have c1:(((f::g::r).length:Int)=1)=False:=eq_false (by simp only[Io];omega);have d0:((f::g::r).length=0)=False:=eq_false (by simp);have d1:((f::g::r).length=1)=False:=eq_false (by simp);have d2:((f::g::r).length=ks.length)=False:=eq_false cF;rw[fgn]at k;simp only;rw[fgn];generalize f::g::r=afi at *
    simp[c43,KL,aa,hget,aQ,n1,pl0,pl,gb,hia,k1,x0,x6,x7,x9,sl,cF1,cn',c1,d0,k]
end
section
variable(q:Po)(l:Sl Sc)(j0:List Rf)(Q:Nd->Prop)(hQ:∀v,Q v->Q (aM v))(b aL sL:Loc)(D C:AV)
include hQ
theorem Hl(R:List AV)(h:Heap)(m:RM q l j0 R h b)(c:Cd)(a:Pt)(b0:Nat)(hc:NF q.uses.l l.l Q c)(hat:At q.nodes.l b0 (flat b0 c))(hw:bH j0 (au q.uses.l l.l) c=some a) :
  (mu K).fn 98 [.ptr b 0,iV (b0:Int)] h=some (.val (.lst [a.av]) h):=by
 cases c with
 |gate j5 ks=>simp[bH]at hw
 |atom k num vs=>
  by_cases hk:k=7
  case neg=>simp[bH,hk]at hw
  subst hk;obtain⟨a0,a1⟩:=gA hat;obtain⟨qv,hA⟩:=id hc;rcases hA with⟨q',_⟩|⟨_,rfl,x,lo,hi,rfl,kx,hv,e⟩
  ·exact absurd q' (by decide)
  have ep:iW j0 (au q.uses.l l.l) 7 0 [x,bq lo,bq hi]=[⟨2,(ixR j0 x:Int),0,lo-(au q.uses.l l.l x).mn,hi-(au q.uses.l l.l x).mn⟩]:=by
   simp[iW,nK,dM,bq]
  have:=f98 q l j0 R Q hQ h b m hc b0 a0 λj v hv=>a1 j (aM v) (by rw[afy,hv];rfl)
  rw[ep]at this;simp only[bH,if_true,ep]at hw;split at hw
  ·injection hw with hw
   rw[this,<-hw];rfl
  ·cases hw
mutual
theorem LJ:∀(c:Cd) (b0:Nat),NF q.uses.l l.l Q c->At q.nodes.l b0 (flat b0 c)->c.size<=380->b0+c.size<=1000->∀(h:Heap),RPl q l j0 h b aL sL->∀(A S:List Pt),A.length+c.size<=90000 ->
  (mu K).fn 43 [.ptr b 0,iV (b0:Int),.bool false] (bE q l j0 h b aL sL D C A S)=some (.val (fA (fmC j0 (au q.uses.l l.l) c)) (bE q l j0 h b aL sL D C (A++kQ j0 (au q.uses.l l.l) c) S))
 |.atom k num vs,b0,hc,hat,hz,hb,h,m,A,S,hA=>by
  obtain⟨x,y,r,_,kx,qx,qy,h7,h6,h67,hp⟩:=jT (j0:=j0) m.hf hc;obtain⟨a0,a1⟩:=gA hat;refine Ho q l j0 b aL sL D C h67 (iW j0 (au q.uses.l l.l) k num vs) hp.len b0 (br b0 k num vs.length) rfl a0 false h m A S (by omega) (λe=>by cases e) λF=>?_
  exact f98 q l j0 _ Q hQ (F::bE q l j0 h b aL sL D C A S) b ((sN q l j0 h b aL sL D C m A S).push F) hc b0 a0 λj v hv=>a1 j (aM v) (by rw[afy,hv];rfl)
 |.gate j5 ks,b0,hc,hat,hz,hb,h,m,A,S,hA=>by
  obtain⟨c1,c2,c3,c4⟩:=hc;obtain⟨a0,a1⟩:=gA hat;have hk:∀c∈ks,NF q.uses.l l.l Q c:=λc hc=>(eK.1 c4 c hc).1
  obtain⟨o1,o2,o3⟩:=kP (j0:=j0) m.hf ks hk;simp only[Cd.size]at hz hb hA;have hkl:=cZ ks;have hpl:=eI j0 (au q.uses.l l.l) ks;have ek:(cj b0 j5 ks).kids.avS iV=.lst ((starts (b0+1) ks).map iV):=by
   simp only[cj,Sl.avS];rw[gu];intro e;have:=congrArg List.length e;rw[afv,bJ]at this;simp at this;rw[this]at c1;simp at c1
  obtain⟨j3,k1,x0,x6,x7,x9⟩:=Cj q l j0 b aL sL D C h m b0 (cj b0 j5 ks) ks ek (by omega) false A S (by omega) (λe=>by cases e) (λe=>by cases e) (λe=>by cases e)
   (λj4 c s hh Fr A' S' hA'=>by
    have hsz:Cd.sizes ks=Cd.sizes j4+(c.size+Cd.sizes s):=by
     rw[hh,eH];simp[Cd.sizes]
    rw[kY q l j0 h b aL sL D C m,kY q l j0 h b aL sL D C m];refine Hq ks c (by rw[hh];simp) (b0+1+Cd.sizes j4) (hk c (by rw[hh];simp)) ?_ (by omega) (by omega) (Fr::h) (m.push Fr) A' S' hA';have a2:=a1;rw[hh]at a2;exact rB j4 (b0+1) c s a2) ks [] rfl
  simp only[jE,xP,afA,if_false,iO,afz,afl,show bF j0 (au q.uses.l l.l) []=[] from rfl,show bZ j0 (au q.uses.l l.l) []=[] from rfl]at k1 x9;have lf:(bZ j0 (au q.uses.l l.l) ks).length=ks.length:=fR _ _ _;have:=Ck q l j0 b aL sL D C h m b0 j5 ks a0 c1 (by omega) c2 c3 false false rfl A S (A++bF j0 (au q.uses.l l.l) ks) S (bZ j0 (au q.uses.l l.l) ks) (λ_=>lf) (by omega) (Fm.jd.1 o1) (by omega) (by omega) j3 k1 x0 x6 x7 (by rw[lf];exact x9);have eg:zT j5 ks.length (bZ j0 (au q.uses.l l.l) ks)=fA (.gate j5 (bZ j0 (au q.uses.l l.l) ks)):=by unfold zT;rw[if_pos lf]
  rw[eg]at this;exact this
theorem Hq:∀(cs:List Cd),∀c∈cs,∀(b0:Nat),NF q.uses.l l.l Q c->At q.nodes.l b0 (flat b0 c)->c.size<=380->b0+c.size<=1000->∀(h:Heap),RPl q l j0 h b aL sL->∀(A S:List Pt),A.length+c.size<=90000 ->
  (mu K).fn 43 [.ptr b 0,iV (b0:Int),.bool false] (bE q l j0 h b aL sL D C A S)=some (.val (fA (fmC j0 (au q.uses.l l.l) c)) (bE q l j0 h b aL sL D C (A++kQ j0 (au q.uses.l l.l) c) S))
 | [],c,hc,_,_,_,_,_,_,_,_,_,_=>by cases hc
 |d::cs,c,hc,b0,h1,h2,h3,h4,h,m,A,S,h5=>by
  rcases afp.1 hc with e|hc
  ·rw[e]at h1 h2 h3 h4 h5⊢;exact LJ d b0 h1 h2 h3 h4 h m A S h5
  ·exact Hq cs c hc b0 h1 h2 h3 h4 h m A S h5
end
end
end Go.Ab.Pn
namespace Go.Ab.Pn
open Go.Ab.Pol
theorem NA(afi:List Fm)(n:Nat)(h2:2<=n):zT (n:Int) n afi=oA (FA afi):=by
 unfold zT
 match afi with
 | []=>rw[if_neg (by simp;omega)];rfl
 | [f]=>rw[if_neg (by simp;omega)];rfl
 |f::g::r=>
  simp only[FA,oA];split
  ·rename_i e;rw[e]
  ·rfl
section
variable(q:Po)(l:Sl Sc)(j0:List Rf)(Q:Nd->Prop)(hQ:∀v,Q v->Q (aM v))(b aL sL:Loc)(D C:AV)
include hQ
theorem Tx(c:Cd)(hc:NF q.uses.l l.l Q c)(hat:At q.nodes.l 0 (flat 0 c))(hz:c.size<=380)(h:Heap)(m:RPl q l j0 h b aL sL) :
  (mu K).fn 43 [.ptr b 0,iV 0,.bool true] (bE q l j0 h b aL sL D C [] []) =
   some (.val (oA (fO j0 (au q.uses.l l.l) c).2.2) (bE q l j0 h b aL sL D C (fO j0 (au q.uses.l l.l) c).1 (fO j0 (au q.uses.l l.l) c).2.1)):=by
 have hn:=wE hat;have k97:=λF=>f97 q l j0 _ (F::bE q l j0 h b aL sL D C [] []) b ((sN q l j0 h b aL sL D C m [] []).push F) Q hQ c 0 hc hat
 cases e:bH j0 (au q.uses.l l.l) c with
 |some a=>
  rw[e]at k97;have k98:=λF=>Hl q l j0 Q hQ b _ (F::bE q l j0 h b aL sL D C [] []) ((sN q l j0 h b aL sL D C m [] []).push F) c a 0 hc hat e
  have hk:(cM 0 c).k=7:=by
   cases c with
   |gate j5 ks=>simp[bH]at e
   |atom k num vs=>
    by_cases hk:k=7
    ·simp[cM,br,hk]
    ·simp[bH,hk]at e
  have:=PE q l j0 b aL sL D C a 0 (cM 0 c) hk hn h m [] [] (by simp) k97 k98;have ep:fO j0 (au q.uses.l l.l) c=([],[a],none):=by unfold fO;rw[e]
  rw[ep];exact this
 |none=>
  rw[e]at k97;cases c with
  |atom k num vs=>
   obtain⟨x,y,r,_,kx,qx,qy,h7,h6,h67,hp⟩:=jT (j0:=j0) m.hf hc;obtain⟨a0,a1⟩:=gA hat;have:=Ho q l j0 b aL sL D C h67 (iW j0 (au q.uses.l l.l) k num vs) hp.len 0 (br 0 k num vs.length) rfl a0 true h m [] [] (by simp) (λ_ F=>k97 F) λF=>
    f98 q l j0 _ Q hQ (F::bE q l j0 h b aL sL D C [] []) b ((sN q l j0 h b aL sL D C m [] []).push F) hc 0 a0 λj v hv=>a1 j (aM v) (by rw[afy,hv];rfl)
   have ep:fO j0 (au q.uses.l l.l) (.atom k num vs)=(iW j0 (au q.uses.l l.l) k num vs,[],some (fmA (iW j0 (au q.uses.l l.l) k num vs))):=by unfold fO;rw[e]
   rw[ep];exact this
  |gate j5 ks=>
   obtain⟨c1,c2,c3,c4⟩:=hc;obtain⟨a0,a1⟩:=gA hat;have hk:∀c∈ks,NF q.uses.l l.l Q c:=λc hc=>(eK.1 c4 c hc).1
   obtain⟨o1,o2,o3⟩:=kP (j0:=j0) m.hf ks hk;simp only[Cd.size]at hz;have hkl:=cZ ks;have hpl:=eI j0 (au q.uses.l l.l) ks;have ek:(cj 0 j5 ks).kids.avS iV=.lst ((starts (0+1) ks).map iV):=by
    simp only[cj,Sl.avS];rw[gu];intro e;have:=congrArg List.length e;rw[afv,bJ]at this;simp at this;rw[this]at c1;simp at c1
   have Ay:∀j4 c s,ks=j4++c::s->At q.nodes.l (0+1+Cd.sizes j4) (flat (0+1+Cd.sizes j4) c):=λj4 c s hh=>by
    have a2:=a1;rw[hh]at a2;exact rB j4 (0+1) c s a2
   have loop:=λall=>Cj q l j0 b aL sL D C h m 0 (cj 0 j5 ks) ks ek (by omega) all [] [] (by simp;omega) (λ_=>by simp)
    (λ_ j4 c s hh Fr A' S'=>f97 q l j0 _ (Fr::bE q l j0 h b aL sL D C A' S') b ((sN q l j0 h b aL sL D C m A' S').push Fr) Q hQ c (0+1+Cd.sizes j4) (hk c (by rw[hh];simp)) (Ay j4 c s hh))
    (λ_ j4 c s a hh hw Fr A' S'=>Hl q l j0 Q hQ b _ (Fr::bE q l j0 h b aL sL D C A' S') ((sN q l j0 h b aL sL D C m A' S').push Fr) c a (0+1+Cd.sizes j4) (hk c (by rw[hh];simp)) (Ay j4 c s hh) hw)
    (λj4 c s hh Fr A' S' hA'=>by
     have hsz:Cd.sizes ks=Cd.sizes j4+(c.size+Cd.sizes s):=by
      rw[hh,eH];simp[Cd.sizes]
     rw[kY q l j0 h b aL sL D C m,kY q l j0 h b aL sL D C m];exact LJ q l j0 Q hQ b aL sL D C c (0+1+Cd.sizes j4) (hk c (by rw[hh];simp)) (Ay j4 c s hh) (by omega) (by omega) (Fr::h) (m.push Fr) A' S' hA') ks [] rfl
   by_cases cn:j5=(ks.length:Int)
   ·obtain⟨j3,k1,x0,x6,x7,x9⟩:=loop true;have hkn:∀c∈narrow j0 (au q.uses.l l.l) ks,NF q.uses.l l.l Q c:=λc hc=>hk c (agC.1 hc).1
    obtain⟨p1,p2,p3⟩:=kP (j0:=j0) m.hf (narrow j0 (au q.uses.l l.l) ks) hkn;have hpn:=eI j0 (au q.uses.l l.l) (narrow j0 (au q.uses.l l.l) ks);have hzn:=dS j0 (au q.uses.l l.l) ks;have hln:(narrow j0 (au q.uses.l l.l) ks).length<=ks.length:=ag0 _ _;have lf:(bZ j0 (au q.uses.l l.l) (narrow j0 (au q.uses.l l.l) ks)).length=(narrow j0 (au q.uses.l l.l) ks).length:=fR _ _ _;have n0:narrow j0 (au q.uses.l l.l) []=[]:=rfl;simp only[jE,xP,if_true,n0,List.filterMap_nil,iO,afq,afz,afl,show bF j0 (au q.uses.l l.l) []=[] from rfl,show bZ j0 (au q.uses.l l.l) []=[] from rfl]at k1 x9;have:=Ck q l j0 b aL sL D C h m 0 j5 ks a0 c1 (by omega) c2 c3 true true (by simp[cn]) [] [] (bF j0 (au q.uses.l l.l) (narrow j0 (au q.uses.l l.l) ks)) (ks.filterMap (bH j0 (au q.uses.l l.l))) (bZ j0 (au q.uses.l l.l) (narrow j0 (au q.uses.l l.l) ks))
     (λe=>by cases e) (by omega) (Fm.jd.1 p1) (by omega) (by omega) j3 k1 x0 x6 x7 (by rw[lf];exact x9)
    rw[cn,NA _ _ c1]at this;have ep:fO j0 (au q.uses.l l.l) (.gate j5 ks)=(bF j0 (au q.uses.l l.l) (narrow j0 (au q.uses.l l.l) ks),ks.filterMap (bH j0 (au q.uses.l l.l)),FA (bZ j0 (au q.uses.l l.l) (narrow j0 (au q.uses.l l.l) ks))):=by
     unfold fO;rw[e];simp only;rw[if_pos cn]
    rw[ep];exact this
   ·obtain⟨j3,k1,x0,x6,x7,x9⟩:=loop false;have lf:(bZ j0 (au q.uses.l l.l) ks).length=ks.length:=fR _ _ _;simp only[jE,xP,afA,if_false,iO,afq,afz,afl,show bF j0 (au q.uses.l l.l) []=[] from rfl,show bZ j0 (au q.uses.l l.l) []=[] from rfl]at k1 x9;have:=Ck q l j0 b aL sL D C h m 0 j5 ks a0 c1 (by omega) c2 c3 true false (by simp[cn]) [] [] (bF j0 (au q.uses.l l.l) ks) [] (bZ j0 (au q.uses.l l.l) ks) (λ_=>lf) (by omega) (Fm.jd.1 o1) (by omega) (by omega) j3 k1 x0 x6 x7 (by rw[lf];exact x9);have eg:zT j5 ks.length (bZ j0 (au q.uses.l l.l) ks)=fA (.gate j5 (bZ j0 (au q.uses.l l.l) ks)):=by unfold zT;rw[if_pos lf]
    rw[eg]at this;have ep:fO j0 (au q.uses.l l.l) (.gate j5 ks)=(bF j0 (au q.uses.l l.l) ks,[],some (.gate j5 (bZ j0 (au q.uses.l l.l) ks))):=by
     unfold fO;rw[e];simp only;rw[if_neg cn]
    rw[ep];exact this
end
abbrev NB(k num:Int)(vs:List Nd):AV:=.iface 252 (.agg [iV k,iV num,.str [],.str [],.ay,iV 0,Sl.avS Nd.av ⟨true,vs⟩])
mutual
def aX:Cd->AV
 |.atom k num vs=>NB k num vs
 |.gate j5 ks=>.iface 254 (.agg [iV j5,.lst (Cl ks)])
def Cl:List Cd->List AV
 | []=>[]
 |c::cs=>aX c::Cl cs
end
theorem fV:∀cs:List Cd,Cl cs=cs.map aX
 | []=>rfl
 |c::cs=>by simp[Cl,fV cs]
@[simp] theorem PK (q:Loc->Bool) (c:Cd):(aX c).aO q=true:=by cases c<;>simp [aX,AV.aO,AV.cD]
@[simp] theorem adg (q:Loc->Bool) (c:Cd) (h:Heap):(aX c).view q h=some (aX c,h):=nX _ (PK _ _) _ _
@[simp] theorem abm (c:Cd):(aX c).cells=[aX c]:=by cases c<;>rfl
@[simp] theorem abn (c:Cd):(aX c).isAgg=false:=by cases c<;>rfl
abbrev bK(p:Po)(l:Sl Sc):AV:=.agg (p.cs++[l.avS Sc.av])
theorem f103(n:Int)(hn:How n)(h:Heap):(mu K).fn 103 [iV n] h=some (.val (iV (complement n)) h):=by
 rw[aC (KX _ _ _) Zb rfl (by simp[VD])];rcases hn with rfl|rfl|rfl|rfl|rfl|rfl<;>simp[VD,complement]
theorem f163(n:Int)(hn:How n)(h:Heap):(mu K).fn 163 [iV n] h=some (.val (iV (cN n)) h):=by
 rw[aC (KX _ _ _) ZT rfl (by simp[VS])];rcases hn with rfl|rfl|rfl|rfl|rfl|rfl<;>simp[VS,cN]
theorem f107(b:Bool)(h:Heap):(mu K).fn 107 [.bool b] h=some (.val (aX (cB b)) h):=by
 rw[aC (KX _ _ _) Zf rfl (by simp[VE])];cases b<;>simp[VE,cB,aX,Sl.avS,lv]
theorem f169(n:Int)(h:Heap):(mu K).fn 169 [iV n] h=some (.val (bq n).av h):=by
 rw[aC (KX _ _ _) ZZ rfl (by simp[VW])];simp[VW,bq,Sl.avS,lv]
theorem f168(j6:Int)(a b:Nd)(h:Heap):(mu K).fn 168 [iV j6,a.av,b.av] h=some (.val (aX (dV j6 a b)) h):=by
 have qa:=ak _ aP a.kids;have qb:=ak _ aP b.kids;have e:∀n m:Nd,Sl.avS Nd.av ⟨true,[n,m]⟩=.lst [n.av,m.av]:=λn m=>by simp[Sl.avS,lv]
 rw[aC (KX _ _ _) ZY rfl (by simp[VV])];simp[VV,dV,aX,e]
theorem f164(j6 a b:Int)(h:Heap):(mu K).fn 164 [iV j6,iV a,iV b] h=some (.val (.bool (gV j6 a b)) h):=by
 rw[aC (KX _ _ _) ZU rfl (by simp[GY])];unfold gV;by_cases h0:j6=0
 ·simp[GY,h0]
 by_cases h1:j6=1
 ·simp[GY,h1]
 by_cases h2:j6=2
 ·simp[GY,h2]
 by_cases h3:j6=3
 ·simp[GY,h3]
 by_cases h4:j6=4
 ·simp[GY,h4]
 ·simp[GY,h0,h1,h2,h3,h4]
theorem fdR{p:Po}{l:List Sc}(hr:bz p l=0)(n:Nd):dU (fY p l ⟨n.nm,n.attr⟩).1=(au p.uses.l l n).av:=by
 unfold fY au;rw[if_neg (by simp[hr])];cases findF p.uses.l l ⟨n.nm,n.attr⟩ with
 |none=>simp[dU,zFd,Sl.avS,lv]
 |some q=>obtain⟨u,k,f⟩:=q;rfl
theorem f166(p:Po)(hp:Sz p)(l:Sl Sc)(hl:okL l)(hr:bz p l.l=0)(n:Nd)(h:Heap):(mu K).fn 166 [bK p l,n.av] h=some (.val (au p.uses.l l.l n).av h):=by
 have k40:=λh=>f38 p hp l hl ⟨n.nm,n.attr⟩ h
 have e:=fdR hr n;obtain⟨a,b,hab⟩:∃a b,gM (fY p l.l ⟨n.nm,n.attr⟩).1=.agg [iV a,iV b]:=by
  cases (fY p l.l ⟨n.nm,n.attr⟩).1 with
  |none=>exact⟨0,0,rfl⟩
  |some q=>obtain⟨u,k,f⟩:=q;exact⟨_,_,rfl⟩
 simp only[e,hab]at k40;generalize au p.uses.l l.l n=f at *
 rw[aC (KX _ _ _) ZW rfl (by simp[VU])];simp[VU,KL,aa,k40]
end Go.Ab.Pn
namespace Go.Ab.Pn
open Go.Ab.Pol
structure FdX (f:Pol.Fd):Prop where
 kind:f.kind=0∨f.kind=1
 lo:-2147483648<=f.mn
 hi:f.mx<=2147483647
 le:f.mn<=f.mx
theorem WJ{f:Pol.Fd}(h:bN f=0):FdX f:=by
 unfold bN at h;split at h
 ·rename_i k0;split at h
  ·simp at h
  split at h
  ·simp at h
  ·rename_i c;exact⟨.inl k0,by omega,by omega,by omega⟩
 split at h
 ·rename_i k1;split at h
  ·simp at h
  ·rename_i c;exact⟨.inr k1,by omega,by omega,by omega⟩
 ·simp at h
theorem zU:∀{l:List Pol.Fd} {met:List Bs},gj met l=0->∀f∈l,bN f=0
 | [],_,_,f,hf=>by cases hf
 |x::l,met,h,f,hf=>by
  simp only[gj]at h;split at h
  ·simp at h
  split at h
  ·simp at h
  split at h
  ·rename_i a;exact absurd h a
  ·rename_i a;rcases afp.1 hf with rfl|hf
   ·simpa using a
   ·exact zU h f hf
theorem Ty{s:Sc}(h:jV s=0){f:Pol.Fd}(hf:f∈s.fields.l):FdX f:=by
 unfold jV at h;split at h
 ·simp at h
 split at h
 ·simp at h
 ·exact WJ (zU h f hf)
theorem FH{p:Po}{l:List Sc}(hs:∀s∈l,jV s=0)(n:Nd):FdX (au p.uses.l l n):=by
 unfold au;cases e:findF p.uses.l l ⟨n.nm,n.attr⟩ with
 |none=>exact⟨.inl rfl,by simp[zFd],by simp[zFd],by simp[zFd]⟩
 |some q=>
  obtain⟨u,k,f⟩:=q;obtain⟨s,h1,h2⟩:=rq e;exact Ty (hs s h1) h2
section
variable(p:Po)(hp:Sz p)(l:Sl Sc)(hl:okL l)(hr:bz p l.l=0)
include hp hl hr
theorem f109(x:Nd)(lo hi:Int)(h:Heap):(mu K).fn 109 [bK p l,x.av,iV lo,iV hi] h=some (.val (aX (within (au p.uses.l l.l) x lo hi)) h):=by
 have jY:=λh=>f166 p hp l hl hr x h
 unfold within;generalize au p.uses.l l.l x=f at *
 have m1:iw true (iV lo) [iV f.mn]=some (iV (max lo f.mn)):=by
  simp only[iw,if_true]
  congr 2
  split<;>omega
 have m2:iw false (iV hi) [iV f.mx]=some (iV (min hi f.mx)):=by
  simp only[iw]
  congr 2
  split<;>simp_all<;>omega
 generalize max lo f.mn=A at *
 generalize min hi f.mx=B at *
 have q1:=ak _ dI p.uses;have q2:=ak _ dz p.az;have q3:=ak _ bX p.nodes;have q4:=ak _ eo l;have qx:=ak _ aP x.kids;have nV:=λb h=>f107 b h
 have Hr:=λn a b h=>f168 n a b h
 have NC:=λn h=>f169 n h
 have nav:∀n:Int,(bq n).av=.agg [iV 10,iV n,.str [],.str [],.ay,iV 0]:=λn=>by simp[bq,Sl.avS,lv]
 simp only[bK,Po.cs,afo,afq]at jY⊢;rw[aC (KX _ _ _) Zh rfl (by simp[GU])];by_cases c1:B<A
 ·simp[GU,KL,aa,jY,m1,m2,c1,nV]
 by_cases c2:A=f.mn∧B=f.mx
 ·obtain⟨c2,c3⟩:=c2;have d1:(f.mx<f.mn)=False:=by simp;omega
  simp[GU,KL,aa,jY,m1,m2,c2,c3,d1,nV]
 by_cases c3:A=B
 ·have En:=Hr 0 x (bq B);rw[nav]at En;subst c3;by_cases d:A=f.mn
  ·subst d;have d2:(f.mn=f.mx)=False:=by simp;intro q;exact c2 ⟨rfl,q⟩
   simp[GU,KL,aa,jY,m1,m2,qx,d2,NC,nav,En]
  ·simp[GU,KL,aa,jY,m1,m2,qx,d,NC,nav,En]
 ·have e3:Sl.avS Nd.av ⟨true,[x,bq A,bq B]⟩=.lst [x.av,(bq A).av,(bq B).av]:=by simp[Sl.avS,lv]
  rw[if_neg c1,if_neg c2,if_neg c3];simp only[aX,NB,e3,nav];by_cases d:A=f.mn
  ·subst d;have d2:(B=f.mx)=False:=by simp;intro q;exact c2 ⟨rfl,q⟩
   simp[GU,KL,aa,jY,m1,m2,qx,c1,c3,d2,NC,nav]
  ·simp[GU,KL,aa,jY,m1,m2,qx,c1,c3,d,NC,nav]
theorem f165(j6:Int)(hh:How j6)(x:Nd)(c:Int)(hc:-2147483648<=c∧c<=2147483647)(h:Heap):(mu K).fn 165 [bK p l,iV j6,x.av,iV c] h=some (.val (aX (bounded (au p.uses.l l.l) j6 x c)) h):=by
 have jY:=λh=>f166 p hp l hl hr x h
 have FP:=λlo hi h=>f109 p hp l hl hr x lo hi h
 unfold bounded;generalize hW:within (au p.uses.l l.l) x=W at *
 generalize au p.uses.l l.l x=f at *
 have q1:=ak _ dI p.uses;have q2:=ak _ dz p.az;have q3:=ak _ bX p.nodes;have q4:=ak _ eo l;have qx:=ak _ aP x.kids;have nV:=λb h=>f107 b h
 have Hr:=λn a b h=>f168 n a b h
 have NC:=λn h=>f169 n h
 have w1:IntKind.i64.wrap (c-1)=c-1:=wrap64 (by omega) (by omega);have w2:IntKind.i64.wrap (c+1)=c+1:=wrap64 (by omega) (by omega);have nav:∀n:Int,(bq n).av=.agg [iV 10,iV n,.str [],.str [],.ay,iV 0]:=λn=>by simp[bq,Sl.avS,lv]
 simp only[bK,Po.cs,afo,afq]at jY FP⊢;rw[aC (KX _ _ _) ZV rfl (by simp[BU])];rcases hh with rfl|rfl|rfl|rfl|rfl|rfl
 ·simp[BU,KL,aa,jY,FP]
 ·have En:=Hr 1 x (bq c);rw[nav]at En;by_cases c1:c<f.mn
  ·simp[BU,KL,aa,jY,c1,nV]
  by_cases c2:f.mx<c
  ·simp[BU,KL,aa,jY,c1,c2,nV]
  by_cases c3:f.mn=f.mx
  ·have c1':(c<f.mx)=False:=by simp;omega
   simp[BU,KL,aa,jY,c1',c2,c3,nV]
  ·simp[BU,KL,aa,jY,qx,c1,c2,c3,NC,nav,En]
 ·simp[BU,KL,aa,jY,FP,w1]
 ·simp[BU,KL,aa,jY,FP]
 ·simp[BU,KL,aa,jY,FP,w2]
 ·simp[BU,KL,aa,jY,FP]
end
end Go.Ab.Pn
namespace Go.Ab.Pol
section
variable(fd:Nd->Fd)
def uU(j6 lo hi:Int):Bool:=if j6=1 then decide (0<lo∨hi<0) else gV j6 lo 0&&gV j6 hi 0
def wF(j6 lo hi:Int):Bool:=if j6=0 then decide (0<lo∨hi<0) else !gV j6 lo 0 && !gV j6 hi 0
def Hs(j6:Int)(a b:Nd):Cd:=
 if uU j6 ((fd a).mn-(fd b).mx) ((fd a).mx-(fd b).mn)=true∨wF j6 ((fd a).mn-(fd b).mx) ((fd a).mx-(fd b).mn)=true then cB (uU j6 ((fd a).mn-(fd b).mx) ((fd a).mx-(fd b).mn)) else dV j6 a b
def wG(j6:Int)(a b:Nd):Cd:=if j6=4∨j6=5 then Hs fd (cN j6) b a else Hs fd j6 a b
def jZ(j6:Int)(a b:Nd):Cd:=
 if a.k=10∧b.k=10 then cB (gV j6 a.num b.num)
 else if a.k=11∧b.k=11 then cB (decide (a.nm=b.nm)==decide (j6=0))
 else if b.k=10 then bounded fd j6 a b.num
 else if (fd a).kind=1 then (if (fd a).words.l.length=1∨(b.k=9∧a.nm=b.nm∧a.attr=b.attr) then cB (decide (j6=0)) else dV j6 a b)
 else if a.nm=b.nm∧a.attr=b.attr then cB (gV j6 0 0)
 else wG fd j6 a b
def AU(j6:Int)(a b:Nd):Cd:=if a.k≠9∧b.k=9 then jZ fd (cN j6) b a else jZ fd j6 a b
end
def FdV(f:Fd):Prop:=(f.kind=0∨f.kind=1)∧f.mn<=f.mx
section
variable{fd:Nd->Fd}
theorem Ht{j6:Int}(h3:j6=0∨j6=1∨j6=2∨j6=3){a b:Nd}(ha:FdV (fd a))(hb:FdV (fd b)):Hs fd j6 a b=cP fd j6 a b:=by
 obtain⟨_,ha⟩:=ha;obtain⟨_,hb⟩:=hb;unfold Hs cP;generalize e1:(fd a).mn-(fd b).mx=lo;generalize e2:(fd a).mx-(fd b).mn=hi;have hle:lo<=hi:=by omega
 rcases h3 with rfl|rfl|rfl|rfl
 ·simp only[uU,wF,gV];simp only[show ¬ (0:Int)=1 by decide,if_false,if_true];by_cases c1:lo=0∧hi=0
  ·simp[c1]
  ·by_cases c2:0<lo∨hi<0
   ·have:(decide (lo=0)&&decide (hi=0))=false:=by simpa using c1
    simp[c1,c2,this]
   ·have:(decide (lo=0)&&decide (hi=0))=false:=by simpa using c1
    simp[c1,c2,this]
 ·simp only[uU,wF,gV];simp only[show ¬ (1:Int)=0 by decide,if_false,if_true];by_cases c2:0<lo∨hi<0
  ·simp[c2]
  ·by_cases c1:lo=0∧hi=0
   ·simp[c1]
   ·have:(decide (lo=0)&&decide (hi=0))=false:=by simpa using c1
    simp[c1,c2,this]
 ·simp only[uU,wF,gV];simp only[show ¬ (2:Int)=0 by decide,show ¬ (2:Int)=1 by decide,if_false,if_true];by_cases c1:hi<0
  ·have:lo<0:=by omega
   simp[c1,this]
  ·by_cases c2:0<=lo
   ·have c3:¬ lo<0:=by omega
    simp[c1,c2,c3]
   ·have c3:lo<0:=by omega
    simp[c1,c2,c3]
 ·simp only[uU,wF,gV];simp only[show ¬ (3:Int)=0 by decide,show ¬ (3:Int)=1 by decide,show ¬ (3:Int)=2 by decide,if_false,if_true];by_cases c1:hi<=0
  ·have:lo<=0:=by omega
   simp[c1,this]
  ·by_cases c2:0<lo
   ·have c3:¬ lo<=0:=by omega
    simp[c1,c2,c3]
   ·have c3:lo<=0:=by omega
    simp[c1,c2,c3]
theorem Hu{j6:Int}(hh:How j6){a b:Nd}(ha:FdV (fd a))(hb:FdV (fd b)):wG fd j6 a b=numbers fd j6 a b:=by
 unfold wG numbers;split
 ·rename_i c;refine Ht ?_ hb ha;rcases c with rfl|rfl<;>simp[cN]
 ·rename_i c;refine Ht ?_ ha hb;unfold How at hh;omega
end
section
variable{us:List Us}{l:List Sc}
theorem zV(hfd:∀n,FdV (au us l n)){j6:Int}{a b:Nd}(w:Wt us l j6 a b)(hs:¬ (a.k≠9∧b.k=9)):jZ (au us l) j6 a b=bP (au us l) j6 a b:=by
 obtain⟨hh,ka,kb,x,y,hx,hy,hag,hn⟩:=w;have v10:∀{n:Nd} {v:VT},n.k=10->bS us l n=some v->v=.num:=λ{n v} h e=>by
  unfold bS at e;rw[if_pos h]at e;exact (Option.some.inj e).symm
 have v11:∀{n:Nd} {v:VT},n.k=11->bS us l n=some v->v=.wd n.nm:=λ{n v} h e=>by
  unfold bS at e;rw[if_neg (by omega),if_pos h]at e;exact (Option.some.inj e).symm
 unfold jZ bP;by_cases a10:a.k=10
 ·have b10:b.k=10:=by
   rcases kb with b9|b10|b11
   ·exact absurd ⟨by omega,b9⟩ hs
   ·exact b10
   ·rw[v10 a10 hx,v11 b11 hy]at hag;exact absurd hag (by simp[aV])
  rw[if_pos ⟨a10,b10⟩,if_pos a10]
 by_cases a11:a.k=11
 ·have b11:b.k=11:=by
   rcases kb with b9|b10|b11
   ·exact absurd ⟨by omega,b9⟩ hs
   ·rw[v11 a11 hx,v10 b10 hy]at hag;exact absurd hag (by simp[aV])
   ·exact b11
  rw[if_neg (λq=>a10 q.1),if_pos ⟨a11,b11⟩,if_neg a10,if_pos a11]
 have a9:a.k=9:=by omega
 rw[if_neg (λq=>a10 q.1),if_neg (λq=>a11 q.1),if_neg a10,if_neg a11];by_cases b10:b.k=10
 ·rw[if_pos b10,if_pos b10]
 rw[if_neg b10,if_neg b10];have fa:=hfd a;have word:(au us l a).kind=1->j6=0∨j6=1:=λk1=>by
  rcases hn with h|⟨h,_⟩
  ·exact h
  ·cases x with
   |num=>have:=lU a9 hx;omega
   |wd w=>exact absurd h (by simp[isNum])
   |fw w=>exact absurd h (by simp[isNum])
 by_cases k1:(au us l a).kind=1
 ·rw[if_pos k1];by_cases sm:b.k=9∧a.nm=b.nm∧a.attr=b.attr
  ·rw[if_pos (.inr sm),if_pos sm];rcases word k1 with rfl|rfl<;>simp[gV]
  ·rw[if_neg sm,if_neg (show ¬ (au us l a).kind=0 by omega)];by_cases c:(au us l a).words.l.length=1
   ·rw[if_pos (.inl c),if_pos c]
   ·rw[if_neg (λq=>q.elim c sm),if_neg c]
 ·rw[if_neg k1];have k0:(au us l a).kind=0:=fa.1.resolve_right k1;have ex:=wH a9 hx k0;subst ex;have b9:b.k=9:=by
   rcases kb with b9|aeo|b11
   ·exact b9
   ·exact absurd aeo b10
   ·rw[v11 b11 hy]at hag;exact absurd hag (by simp[aV])
  by_cases sm:a.nm=b.nm∧a.attr=b.attr
  ·rw[if_pos sm,if_pos ⟨b9,sm⟩]
  ·rw[if_neg sm,if_neg (λq=>sm q.2),if_pos k0];exact Hu hh fa (hfd b)
theorem JF(hfd:∀n,FdV (au us l n)){j6:Int}{a b:Nd}(w:Wt us l j6 a b):AU (au us l) j6 a b=values (au us l) j6 a b:=by
 unfold AU values;split
 ·rename_i c;exact zV hfd w.cN (by omega)
 ·rename_i c;exact zV hfd w c
end
end Go.Ab.Pol
namespace Go.Ab.Pn
open Go.Ab.Pol
abbrev lV(v:Nd):AV:=.agg [iV v.k,iV v.num,.str v.nm,.str v.attr,.ay,iV 0,.ay]
def rK:Cd->Int
 |.atom k _ _=>k
 |.gate _ _=>5
def rN:Cd->Int
 |.atom _ n _=>n
 |.gate n _=>n
def rL:Cd->Nat
 |.atom _ _ vs=>vs.length
 |.gate _ ks=>ks.length
mutual
def rS:Cd->AV
 |.atom _ _ vs=>lv true (vs.map lV)
 |.gate _ ks=>.lst (rcs ks)
def rcs:List Cd->List AV
 | []=>[]
 |c::cs=>.agg [iV (rK c),iV (rN c),.str [],.str [],.ay,iV 0,rS c]::rcs cs
end
abbrev bB(c:Cd):AV:=.agg [iV (rK c),iV (rN c),.str [],.str [],.ay,iV 0,rS c]
theorem wI:∀cs:List Cd,rcs cs=cs.map bB
 | []=>rfl
 |c::cs=>by simp[rcs,wI cs]
def rE:Cd->List AV
 |.atom _ _ vs=>vs.map lV
 |.gate _ ks=>ks.map bB
@[simp] theorem PL (q:Loc->Bool) (c:Cd):(rS c).aO q=true:=by cases c<;>simp [rS,AV.aO]
@[simp] theorem adh (q:Loc->Bool) (c:Cd) (h:Heap):(rS c).view q h=some (rS c,h):=nX _ (PL _ _) _ _
theorem Tz(c:Cd):rS c=.ay∧rL c=0∧rE c=[]∨rS c=.lst (rE c)∧rL c=(rE c).length:=by
 cases c with
 |atom k n vs=>cases vs with
  |nil=>exact .inl ⟨rfl,rfl,rfl⟩
  |cons x l=>exact .inr ⟨rfl,by simp[rL,rE]⟩
 |gate n ks=>exact .inr ⟨by simp[rS,rE,wI],by simp[rL,rE]⟩
@[simp] theorem aep (c:Cd):rC (rS c)=some (rL c):=by rcases Tz c with ⟨e,q,_⟩ | ⟨e,q⟩<;>rw [e,q]<;>rfl
theorem JM(v:Nd):(lV v).beq (lV v)=true:=by simp[AV.beq,AV.dh]
mutual
theorem fX:∀c:Cd,(rS c).beq (rS c)=true
 |.atom _ _ vs=>by
  simp only[rS];have:=nQ lV JM vs;cases vs with
  |nil=>rfl
  |cons x l=>simpa[lv,AV.beq]using this
 |.gate _ ks=>by
  simp only[rS,AV.beq];exact FQ ks
theorem FQ:∀cs:List Cd,AV.dh (rcs cs) (rcs cs)=true
 | []=>by simp[rcs,AV.dh]
 |c::cs=>by simp[rcs,AV.beq,AV.dh,fX c,FQ cs]
end
theorem f196(n:Nd)(h:Heap):(mu K).fn 196 [n.av] h=some (.val (lV n) h):=by
 rw[aC (KX _ _ _) aal rfl (by simp[c196])];simp[c196]
theorem f198(n:Int)(h:Heap):(mu K).fn 198 [iV n] h=some (.val (lV (bq n)) h):=by
 rw[aC (KX _ _ _) aan rfl (by simp[c198])];simp[c198,bq]
theorem f145(b:Bool)(h:Heap):(mu K).fn 145 [.bool b] h=some (.val (bB (cB b)) h):=by
 rw[aC (KX _ _ _) Zz rfl (by simp[VM])];cases b<;>simp[VM,cB,rK,rN,rS,lv]
theorem f195(j6:Int)(a b:Nd)(h:Heap):(mu K).fn 195 [iV j6,lV a,lV b] h=some (.val (bB (dV j6 a b)) h):=by
 rw[aC (KX _ _ _) aak rfl (by simp[VZ])];simp[VZ,dV,rK,rN,rS,lv]
theorem f191(n:Int)(hn:How n)(h:Heap):(mu K).fn 191 [iV n] h=some (.val (iV (cN n)) h):=by
 rw[aC (KX _ _ _) aag rfl (by simp[VX])];rcases hn with rfl|rfl|rfl|rfl|rfl|rfl<;>simp[VX,cN]
theorem f197(n:Int)(hn:How n)(h:Heap):(mu K).fn 197 [iV n] h=some (.val (iV (complement n)) h):=by
 rw[aC (KX _ _ _) aam rfl (by simp[V2])];rcases hn with rfl|rfl|rfl|rfl|rfl|rfl<;>simp[V2,complement]
theorem f192(j6:Int)(hn:How j6)(a b:Int)(h:Heap):(mu K).fn 192 [iV j6,iV a,iV b] h=some (.val (.bool (gV j6 a b)) h):=by
 rw[aC (KX _ _ _) aah rfl (by simp[VY])];rcases hn with rfl|rfl|rfl|rfl|rfl|rfl<;>simp[VY,gV]
theorem f147(j6:Int)(hn:How j6)(neg:Bool)(h:Heap):(mu K).fn 147 [iV j6,.bool neg] h=some (.val (iV (sg neg j6)) h):=by
 have aer:=λh=>f197 j6 hn h
 rw[aC (KX _ _ _) ZB rfl (by simp[VN])];cases neg<;>simp[VN,KL,aa,aer,sg]
theorem f199(c:Cd)(h:Heap):(mu K).fn 199 [bB c] h=some (.val (.bool (decide (rK c=5)&&decide (rN c=(rL c:Int)))) h):=by
 have q:=fX c;rw[aC (KX _ _ _) aao rfl (by simp[SV])];by_cases h5:rK c=5
 ·have h5':(rK c=5)=True:=eq_true h5;simp[SV,h5']
 ·simp[SV,h5]
theorem f200(c:Cd)(h:Heap):(mu K).fn 200 [bB c] h=some (.val (.bool (decide (rK c=5)&&decide (rN c=1))) h):=by
 have q:=fX c;rw[aC (KX _ _ _) aap rfl (by simp[SX])];by_cases h5:rK c=5
 ·have h5':(rK c=5)=True:=eq_true h5;simp[SX,h5']
 ·simp[SX,h5]
section
variable(p:Po)(hp:Sz p)(l:Sl Sc)(hl:okL l)(b0:Loc)(h:Heap)(hb:hget h b0=some (.box 181 false (bK p l)))(lb:b0.1<h.length)
include hb lb
theorem f148(n:Nd)(i:Int)(hi:0<=i)(x:Nat)(a:Nd)(ei:n.kids.l[i.toNat]?=some (x:Int))(ea:p.nodes.l[x]?=some a) :
  (mu K).fn 148 [.ptr b0 0,n.av,iV i] h=some (.val a.av h):=by
 have i1:=λ(k:IntKind)=>cK (av:=iV) (sz:=1) (s:=n.kids) (k:=k) (j:=i) (x:=(x:Int)) hi ei rfl
 have i3:=iaP Nd.av 6 p.nodes x a (by simpa using ea);have n1:(b0.1=h.length)=False:=eq_false (by omega);have qa:=ak _ aP a.kids;have qn:=ak _ aP n.kids;simp only[bK,Po.cs,afo,afq]at hb;rw[aC (KX _ _ _) ZC rfl (by simp[VO])];simp[VO,hb,n1,i1,i3]
include hp hl
theorem f193(n:Nd):(mu K).fn 193 [.ptr b0 0,n.av] h=some (.val (au p.uses.l l.l n).av h):=by
 have k64:=λh=>f17 p hp.uses.1 l hl ⟨n.nm,n.attr⟩ h
 have n1:(b0.1=h.length)=False:=eq_false (by omega);have q1:=ak _ dI p.uses;have q2:=ak _ dz p.az;have q3:=ak _ bX p.nodes;have q4:=ak _ eo l;have qn:=ak _ aP n.kids;obtain⟨a,b,hab⟩:∃a b,gM (findF p.uses.l l.l ⟨n.nm,n.attr⟩)=.agg [iV a,iV b]:=by
  cases findF p.uses.l l.l ⟨n.nm,n.attr⟩ with
  |none=>exact⟨0,0,rfl⟩
  |some q=>obtain⟨u,k,f⟩:=q;exact⟨_,_,rfl⟩
 have e:dU (findF p.uses.l l.l ⟨n.nm,n.attr⟩)=(au p.uses.l l.l n).av:=by
  unfold au;cases findF p.uses.l l.l ⟨n.nm,n.attr⟩ with
  |none=>simp[dU,zFd,Sl.avS,lv]
  |some q=>obtain⟨u,k,f⟩:=q;rfl
 simp only[e,hab]at k64;generalize au p.uses.l l.l n=f at *
 simp only[bK,Po.cs,afo,afq]at hb;rw[aC (KX _ _ _) aai rfl (by simp[c193])];simp[c193,KL,aa,hb,n1,k64,q1,q2,q3,q4]
end
