/-
  The reference's normal form: comparisons of two number fields; of two values.
-/
import Derived.Test.YtjnomgdildcbhaaGreatDoorAb4dQ24
import Derived.Test.YtjnomgdildcbhaaGreatDoorAb4dQ22
set_option linter.all false
set_option maxRecDepth 100000
set_option maxHeartbeats 4000000
namespace Go.Ab.Pn
open Go.Ab.Pol
structure E83 (j3:Env)(j6:Int)(n:Nat):Prop where
 g1:get j3 1=iV j6
 g6:get j3 6=.ptr (n,0) 0
 g7:get j3 7=.ptr (n,1) 0
 g8:get j3 8=.ptr (n,2) 0
abbrev F83(a b:Nd)(e f g:Pol.Fd):List Blk:=[.box 90 false a.av,.box 90 false b.av,.box 185 false z7,.box 50 false e.av,.box 50 false f.av,.box 50 false g.av]
section
variable(h:Heap)
theorem WU(a b:Nd)(e f g:Pol.Fd)(xf:FdX f)(xg:FdX g)(j6:Int)(h3:j6=0∨j6=1∨j6=2∨j6=3)(j3:Env)(he:E83 j3 j6 h.length)(e10:get j3 10=.ptr (h.length,4) 0)(e11:get j3 11=.ptr (h.length,5) 0) :
  ∃j3',evC K (mu K) (.seq jK (.seq jL (.seq jM (.seq jN jO)))) ⟨j3,F83 a b e f g::h⟩=some (.norm,⟨j3',F83 a b e f g::h⟩)∧E83 j3' j6 h.length ∧
   get j3' 14=.bool (uU j6 (f.mn-g.mx) (f.mx-g.mn))∧get j3' 15=.bool (wF j6 (f.mn-g.mx) (f.mx-g.mn)):=by
 obtain⟨g1,g6,g7,g8⟩:=he;obtain⟨fk,f1,f2,f3⟩:=xf;obtain⟨gk,y1,y2,y3⟩:=xg;obtain⟨A,hA⟩:∃A,f.mn-g.mx=A:=⟨_,rfl⟩
 obtain⟨B,hB⟩:∃B,f.mx-g.mn=B:=⟨_,rfl⟩
 have w1:IntKind.i64.wrap (f.mn-g.mx)=A:=by rw[<-hA];exact wrap64 (by omega) (by omega)
 have w2:IntKind.i64.wrap (f.mx-g.mn)=B:=by rw[<-hB];exact wrap64 (by omega) (by omega)
 rw[hA,hB];have hh:How j6:=by unfold How;omega
 have JN:=λa b h=>f192 j6 hh a b h
 have mk:∀{j3:Env} {X Y:AV},(get j3 1=iV j6∧get j3 6=.ptr (h.length,0) 0∧get j3 7=.ptr (h.length,1) 0∧get j3 8=.ptr (h.length,2) 0∧get j3 14=X∧get j3 15=Y)->E83 j3 j6 h.length∧get j3 14=X∧get j3 15=Y:=λ⟨a,b,c,d,e,f⟩=>⟨⟨a,b,c,d⟩,e,f⟩
 suffices ∃j3',_∧_ from let ⟨e,x,y⟩:=this;⟨e,x,mk y⟩
 have hc:∀x,gV j6 x 0=true∨gV j6 x 0=false:=λx=>by cases gV j6 x 0<;>simp
 rcases h3 with rfl|rfl|rfl|rfl
 ·have n0:uU 0 A B=(gV 0 A 0&&gV 0 B 0):=by unfold uU;rw[if_neg (by decide)]
  have n2:wF 0 A B=decide (0<A∨B<0):=by unfold wF;rw[if_pos rfl]
  rw[n0,n2];rcases hc A with cA|cA<;>rcases hc B with cB' |cB'<;>by_cases d:0<A <;>
   simp[jK,jL,jM,jN,jO,KL,aa,g1,g6,g7,g8,e10,e11,w1,w2,JN,cA,cB',d]
 ·have n0:uU 1 A B=decide (0<A∨B<0):=by unfold uU;rw[if_pos rfl]
  have n2:wF 1 A B=(!gV 1 A 0 && !gV 1 B 0):=by unfold wF;rw[if_neg (by decide)]
  rw[n0,n2];rcases hc A with cA|cA<;>rcases hc B with cB' |cB'<;>by_cases d:0<A <;>
   simp[jK,jL,jM,jN,jO,KL,aa,g1,g6,g7,g8,e10,e11,w1,w2,JN,cA,cB',d]
 ·have n0:uU 2 A B=(gV 2 A 0&&gV 2 B 0):=by unfold uU;rw[if_neg (by decide)]
  have n2:wF 2 A B=(!gV 2 A 0 && !gV 2 B 0):=by unfold wF;rw[if_neg (by decide)]
  rw[n0,n2];rcases hc A with cA|cA<;>rcases hc B with cB' |cB' <;>
   simp[jK,jL,jM,jN,jO,KL,aa,g1,g6,g7,g8,e10,e11,w1,w2,JN,cA,cB']
 ·have n0:uU 3 A B=(gV 3 A 0&&gV 3 B 0):=by unfold uU;rw[if_neg (by decide)]
  have n2:wF 3 A B=(!gV 3 A 0 && !gV 3 B 0):=by unfold wF;rw[if_neg (by decide)]
  rw[n0,n2];rcases hc A with cA|cA<;>rcases hc B with cB' |cB' <;>
   simp[jK,jL,jM,jN,jO,KL,aa,g1,g6,g7,g8,e10,e11,w1,w2,JN,cA,cB']
theorem WV(a b:Nd)(e f g:Pol.Fd)(j6:Int)(x y:Bool)(j3:Env)(he:E83 j3 j6 h.length)(e14:get j3 14=.bool x)(e15:get j3 15=.bool y) :
  goF nr.res (evC K (mu K) (.seq oU (.seq oV oW)) ⟨j3,F83 a b e f g::h⟩)=some (.val (bB (if x=true∨y=true then cB x else dV j6 a b)) h):=by
 obtain⟨g1,g6,g7,g8⟩:=he;have k81:=λb h=>f145 b h
 have Dy:=λh=>f195 j6 a b h
 have Az:=λn h=>f196 n h
 have qa:=ak _ aP a.kids;have qb:=ak _ aP b.kids;cases x<;>cases y<;>simp[oU,oV,oW,nr,KL,aa,g1,g6,g7,g8,e14,e15,k81,Dy,Az,qa,qb,cB,dV,rK,rN,rS,lv]
end
section
variable(p:Po)(hp:Sz p)(l:Sl Sc)(hl:okL l)(b0:Loc)(h:Heap)
include hp hl
theorem WW(j6:Int)(hh:How j6)(a b:Nd)(e:Pol.Fd)(hb:hget h b0=some (.box 181 false (bK p l)))(lb:b0.1<h.length)(j3:Env)(he:E82 j3 b0 j6 h.length) :
  ∃j3',evC K (mu K) (.seq uj xz) ⟨j3,(F82 a b++[.box 50 false e.av])::h⟩=some (.norm,⟨j3',(if j6=4∨j6=5 then F83 b a e (au p.uses.l l.l b) (au p.uses.l l.l a) else F83 a b e (au p.uses.l l.l a) (au p.uses.l l.l b))::h⟩) ∧
   E83 j3' (if j6=4∨j6=5 then cN j6 else j6) h.length∧get j3' 10=.ptr (h.length,4) 0∧get j3' 11=.ptr (h.length,5) 0:=by
 obtain⟨g0,g1,g6,g7,g8⟩:=he;have n1:(b0.1=h.length)=False:=eq_false (by omega);have qa:=ak _ aP a.kids;have qb:=ak _ aP b.kids;have up0:∀F,hget (F::h) b0=some (.box 181 false (bK p l)):=λF=>by simp only[hget];rw[if_neg (by omega)];exact hb
 have ka:=λF=>f193 p hp l hl b0 (F::h) (up0 F) (by simp only[Io];omega) a
 have kb:=λF=>f193 p hp l hl b0 (F::h) (up0 F) (by simp only[Io];omega) b
 have m4:=λh=>f191 4 (by simp[How]) h
 have m5:=λh=>f191 5 (by simp[How]) h
 simp only[show cN 4=2 by decide,show cN 5=3 by decide]at m4 m5;generalize au p.uses.l l.l a=f at *
 generalize au p.uses.l l.l b=g at *
 have qf:=ak _ bD f.words;have qg:=ak _ bD g.words;have qe:=ak _ bD e.words;have mk:∀{j3:Env} {j6:Int},(get j3 1=iV j6∧get j3 6=.ptr (h.length,0) 0∧get j3 7=.ptr (h.length,1) 0∧get j3 8=.ptr (h.length,2) 0∧get j3 10=.ptr (h.length,4) 0∧get j3 11=.ptr (h.length,5) 0)->E83 j3 j6 h.length∧get j3 10=.ptr (h.length,4) 0∧get j3 11=.ptr (h.length,5) 0:=λ⟨a,b,c,d,e,f⟩=>⟨⟨a,b,c,d⟩,e,f⟩
 suffices ∃j3',_∧_ from let ⟨e,x,y⟩:=this;⟨e,x,mk y⟩
 rcases hh with rfl|rfl|rfl|rfl|rfl|rfl
 all_goals simp[uj,xz,KL,aa,ka,kb,g0,g1,g6,g7,g8,qa,qb,m4,m5,cN]
theorem f146(hr:bz p l.l=0)(j6:Int)(hh:How j6)(a b:Nd)(ha:wj a)(PO:wj b)(hb:hget h b0=some (.box 181 false (bK p l)))(lb:b0.1<h.length) :
  (mu K).fn 146 [.ptr b0 0,iV j6,a.av,b.av] h=some (.val (bB (AU (au p.uses.l l.l) j6 a b)) h):=by
 obtain⟨j3,k,he⟩:=WR b0 h j6 hh a b lb;have main:∀(j6:Int) (hh:How j6) (a b:Nd),wj b->∀j3,E82 j3 b0 j6 h.length ->
   goF nr.res (evC K (mu K) (.seq dg (.seq dL (.seq dP (.seq dQ (.seq dR (.seq fG R82)))))) ⟨j3,F82 a b::h⟩)=some (.val (bB (jZ (au p.uses.l l.l) j6 a b)) h):=λj6 hh a b PO j3 he=>by
  by_cases zW:late (au p.uses.l l.l) a b
  case neg=>exact WS p hp l hl b0 h j6 hh a b PO hb lb j3 he zW
  obtain⟨iZ,k1,he1⟩:=WT p hp l hl b0 h j6 a b hb lb j3 he zW;obtain⟨jA,k2,he2,e10,e11⟩:=WW p hp l hl b0 h j6 hh a b (au p.uses.l l.l a) hb lb iZ he1;have xs:=λn=>FH (p:=p) (gU hr).sch n
  have lO:evC K (mu K) (.seq dg (.seq dL (.seq dP (.seq dQ (.seq dR (.seq fG R82)))))) ⟨j3,F82 a b::h⟩ =
    goS K (mu K) R82 (evC K (mu K) (.seq dg (.seq dL (.seq dP (.seq dQ (.seq dR fG))))) ⟨j3,F82 a b::h⟩):=by
   simp only[dm];generalize evC K (mu K) dg ⟨j3,F82 a b::h⟩=s0;simp only[lQ]
  have TB:evC K (mu K) R82 ⟨iZ,(F82 a b++[.box 50 false (au p.uses.l l.l a).av])::h⟩ =
    goS K (mu K) (.seq (.seq jK (.seq jL (.seq jM (.seq jN jO)))) (.seq oU (.seq oV oW))) (evC K (mu K) (.seq uj xz) ⟨iZ,(F82 a b++[.box 50 false (au p.uses.l l.l a).av])::h⟩):=by
   simp only[R82,dm];generalize evC K (mu K) uj ⟨iZ,(F82 a b++[.box 50 false (au p.uses.l l.l a).av])::h⟩=s0;simp only[lQ]
  have tail:∀(j6:Int) (a b:Nd) (e:Pol.Fd),(j6=0∨j6=1∨j6=2∨j6=3)->E83 jA j6 h.length ->
    goF nr.res (goS K (mu K) (.seq (.seq jK (.seq jL (.seq jM (.seq jN jO)))) (.seq oU (.seq oV oW))) (some (.norm,⟨jA,F83 a b e (au p.uses.l l.l a) (au p.uses.l l.l b)::h⟩)))=some (.val (bB (Hs (au p.uses.l l.l) j6 a b)) h):=λj6 a b e h3 he2=>by
   obtain⟨FR,k3,he3,x14,x15⟩:=WU h a b e _ _ (xs a) (xs b) j6 h3 jA he2 e10 e11;rw[bk,dm,k3,bk,WV h a b e _ _ j6 _ _ FR he3 x14 x15];rfl
  rw[lO,k1,bk,TB,k2];obtain⟨c1,c2,c3,c4,c5⟩:=zW;unfold jZ;rw[if_neg c1,if_neg c2,if_neg c3,if_neg c4,if_neg c5];unfold wG;by_cases c:j6=4∨j6=5
  ·rw[if_pos c]at he2⊢;rw[if_pos c];refine tail (cN j6) b a _ ?_ he2;rcases c with rfl|rfl<;>simp[cN]
  ·rw[if_neg c]at he2⊢;rw[if_neg c];refine tail j6 a b _ ?_ he2;unfold How at hh;omega
 rw[aC (KX _ _ _) ZA NI (by simp[nr])];have lO:evC K (mu K) (.seq nj (.seq oQ (.seq dg (.seq dL (.seq dP (.seq dQ (.seq dR (.seq fG R82)))))))) ⟨cI 0 [.ptr b0 0,iV j6,a.av,b.av],[]::h⟩ =
   goS K (mu K) (.seq dg (.seq dL (.seq dP (.seq dQ (.seq dR (.seq fG R82)))))) (evC K (mu K) (.seq nj oQ) ⟨cI 0 [.ptr b0 0,iV j6,a.av,b.av],[]::h⟩):=by
  simp only[dm];generalize evC K (mu K) nj ⟨cI 0 [.ptr b0 0,iV j6,a.av,b.av],[]::h⟩=s0;simp only[lQ]
 show goF nr.res (evC K (mu K) (.seq nj (.seq oQ (.seq dg (.seq dL (.seq dP (.seq dQ (.seq dR (.seq fG R82)))))))) ⟨cI 0 [.ptr b0 0,iV j6,a.av,b.av],[]::h⟩)=_;rw[lO,k,bk];unfold AU;by_cases c:a.k≠9∧b.k=9
 ·rw[if_pos c]at he⊢;rw[if_pos c];exact main _ (uR hh) b a ha j3 he
 ·rw[if_neg c]at he⊢;rw[if_neg c];exact main _ hh a b PO j3 he
end
def cdB:List Cd->Blk
 | []=>.arr 0 0 false []
 |c::r=>.arr 121 1 false ((c::r).map aX)
theorem jU(d:List Cd):∃t z,cdB d=.arr t z false (d.map aX)∧(z=0∨t=121∧z=1):=by
 cases d with
 |nil=>exact⟨0,0,rfl,.inl rfl⟩
 |cons s r=>exact⟨121,1,rfl,.inr ⟨rfl,rfl⟩⟩
theorem sH(d:List Cd)(c:Cd):cdB (d++[c])=.arr 121 1 false ((d++[c]).map aX):=by
 cases d<;>rfl
theorem PS(d e:List Cd)(he:e≠[]):cdB (d++e)=.arr 121 1 false ((d++e).map aX):=by
 cases d with
 |nil=>cases e with
  |nil=>exact absurd rfl he
  |cons c r=>rfl
 |cons x r=>rfl
def kR(b:Int×List Cd)(c:Cd):(Int×List Cd) ⊕ Unit:=if c.isT=true then .inl (b.1-1,b.2) else if c.isF=true then .inl b else .inl (b.1,b.2++[c])
theorem rD:∀(cs:List Cd) (k:Int) (R:List Cd),iter kR (k,R) cs=.inl (k-gW cs,R++rest cs)
 | [],k,R=>by simp[iter,gW,rest]
 |c::cs,k,R=>by
  simp only[iter,kR];by_cases h1:c.isT=true
  ·rw[if_pos h1];simp only;rw[rD cs];simp[gW,rest,h1];omega
  ·by_cases h2:c.isF=true
   ·rw[if_neg h1,if_pos h2];simp only;rw[rD cs];simp[gW,rest,h1,h2]
   ·rw[if_neg h1,if_neg h2];simp only;rw[rD cs];simp[gW,rest,h1,h2]
theorem Nv(k:Int)(hk:-1000000<=k∧k<=1000000)(cs:List Cd)(hc:cs.length<=1000000)(nl:Bool)(h:Heap) :
  ∃j3,(mu K).code (.af 1 [0,5,15,16,17] mX) ⟨[(0,iV k),(5,.own (h.length,0) 0),(15,lv nl (cs.map aX)),(16,iV (cs.length:Int)),(17,iV 0)],[.arr 0 0 false []]::h⟩ =
   some (.exit 0,⟨j3,[cdB (rest cs)]::h⟩)∧get j3 0=iV (k-gW cs)∧get j3 5=.own (h.length,0) (rest cs).length:=by
 have key:=aB (K:=K) (n:=1) (live:=[0,5,15,16,17]) (a:=mX) kR
  (λj4 b=>⟨[(0,iV b.1),(5,.own (h.length,0) b.2.length),(15,lv nl (cs.map aX)),(16,iV (cs.length:Int)),(17,iV (j4.length:Int))],[cdB b.2]::h⟩)
  (λj4 b=>k-j4.length<=b.1∧b.1<=k∧b.2.length<=j4.length)
  (λb o=>∃j3,o=some (.exit 0,⟨j3,[cdB b.2]::h⟩)∧get j3 0=iV b.1∧get j3 5=.own (h.length,0) b.2.length)
  (λ_ _=>False) cs
  (λj4 c r b hl' hb=>by
   obtain⟨hb1,hb2,hb3⟩:=hb;obtain⟨h1,h2,w1⟩:=aA hl' (by omega);have hix:=λ(kk:IntKind)=>nI (sz:=1) (nl:=nl) (l:=cs.map aX) (k:=kk) (j:=(j4.length:Int)) (v:=aX c) (by omega) (by simp[h2]) (by simp)
   have w2:IntKind.i64.wrap (b.1-1)=b.1-1:=wrap64 (by omega) (by omega);have r1:(b.2.length+1)*16<=room:=by unfold room;omega
   have r2:b.2.length+1<=room:=by unfold room;omega
   obtain⟨t0,z0,hcB,hz⟩:=jU b.2;have hz:(z0=0∨t0=121∧z0=1)=True:=by simp[hz]
   have hlb:(b.2.map aX).length=b.2.length:=by simp
   refine⟨λb' e=>?_,λ_ e=>by simp only[kR]at e;split at e<;>(try split at e)<;>cases e⟩;rw[aj];generalize (mu K).code _=FF;generalize cs.map aX=M at *
   clear hl';cases c with
   |atom ck cn vs=>
    simp only[kR,Cd.isT,Cd.isF,decide_eq_true_eq]at e;have hd:aX (.atom ck cn vs)=NB ck cn vs:=by rw[aX]
    rw[hd]at hix;by_cases c0:ck=0
    ·rw[if_pos c0]at e;injection e with e
     subst e;refine⟨⟨by simp;omega,by simp only;omega,by simp;omega⟩,?_⟩;rw[hcB];simp[mX,h1,hix,w1,w2,c0]
    by_cases c1:ck=1
    ·rw[if_neg c0,if_pos c1]at e;injection e with e
     subst e;refine⟨⟨by simp;omega,hb2,by simp;omega⟩,?_⟩;rw[hcB];simp[mX,h1,hix,w1,c1]
    ·rw[if_neg c0,if_neg c1]at e;injection e with e
     subst e;refine⟨⟨by simp;omega,hb2,by simp;omega⟩,?_⟩;simp only[sH];rw[hcB];simp[mX,h1,hix,w1,c0,c1,r1,r2,hz,hlb,hd]
   |gate j5 ks=>
    simp[kR,Cd.isT,Cd.isF]at e;have hd:aX (.gate j5 ks)=.iface 254 (.agg [iV j5,.lst (Cl ks)]):=by rw[aX]
    rw[hd]at hix;subst e;refine⟨⟨by simp;omega,hb2,by simp;omega⟩,?_⟩;simp only[sH];rw[hcB];simp[mX,h1,hix,w1,r1,r2,hz,hlb,hd])
  (λb hb=>by
   rw[aj];generalize (mu K).code _=FF;simp[mX]) (k,[]) ⟨by simp,by simp,by simp⟩
 rw[rD]at key;exact key.2
theorem JP{α:Type}{M:List α}{i:Nat}{v:α}(h:M[i]?=some v):∀hh,M[i]'hh=v:=λhh=>by
 have:=afD hh;rw[h]at this;injection this with this
 exact this.symm
def GNe(c:Cd):Prop:=∀j5 ks,c=.gate j5 ks->ks≠[]
theorem rF(w:Bool)(k:Int)(c:Cd):∀l:List Cd,bw w k (l++[c])=bw w k l++cX w k c
 | []=>by simp[bw]
 |x::l=>by simp[bw,rF w k c l]
theorem merge_le(w:Bool)(k:Int)(l:List Cd):(bw w k l).length<=Cd.sizes l:=af3 (cZ _) (mN w k l)
theorem El (k:Int) (w:Bool) (cs:List Cd) (hg:∀c∈cs, GNe c) (hs:Cd.sizes cs<=1000000) (h:Heap) :
    ∃j3, (mu K).code (.af 2 [0, 10, 11, 69, 70, 71] kI) ⟨[(0, iV k), (10, .bool w), (11, .own (h.length, 1) 0), (69, .own (h.length, 0) cs.length), (70, iV (cs.length:Int)), (71, iV 0)], [.arr 121 1 false (cs.map aX), .arr 0 0 false []]::h⟩ =
      some (.exit 5, ⟨j3, [.arr 121 1 false (cs.map aX), cdB (bw w k cs)]::h⟩)∧get j3 0=iV k∧get j3 10=.bool w∧get j3 11=.own (h.length, 1) (bw w k cs).length:=by
  have hcs:=cZ cs;have key:=aB (K:=K) (n:=2) (live:=[0, 10, 11, 69, 70, 71]) (a:=kI) (ρ:=Unit) (λ(b:List Cd) (c:Cd)=>.inl (b++cX w k c))
    (λj4 b=>⟨[(0, iV k), (10, .bool w), (11, .own (h.length, 1) b.length), (69, .own (h.length, 0) cs.length), (70, iV (cs.length:Int)), (71, iV (j4.length:Int))], [.arr 121 1 false (cs.map aX), cdB b]::h⟩)
    (λj4 b=>b=bw w k j4)
    (λb o=>∃j3, o=some (.exit 5, ⟨j3, [.arr 121 1 false (cs.map aX), cdB b]::h⟩)∧get j3 0=iV k∧get j3 10=.bool w∧get j3 11=.own (h.length, 1) b.length)
    (λ_ _=>False) cs
    (λj4 c r b hl' hb=>by
      obtain⟨h1, h2, w1⟩:=aA hl' (by omega);have hp:j4.length<cs.length:=(aft.1 h2).1;have hgc:=hg c (afB h2);have hls:Cd.sizes cs=Cd.sizes j4+(c.size+Cd.sizes r):=by rw[hl', eH];rfl
      have hbl:b.length<=Cd.sizes j4:=by rw[hb];exact merge_le w k j4
      have g2:(cs.map aX)[j4.length]?=some (aX c):=by simp[h2]
      have hcl:(cs.map aX).length=cs.length:=by simp
      have r1 : (b.length + 1) * 16 <= room := by unfold room; have : 1 <= c.size := by cases c <;> simp [Cd.size]
                                                  omega
      have r2:b.length+1<=room:=by unfold room at *;omega
      obtain⟨t0, z0, hcB, hz⟩:=jU b;have hz:(z0=0∨t0=121∧z0=1)=True:=by simp[hz]
      have hlb:(b.map aX).length=b.length:=by simp
      refine⟨λb' e=>?_, λ_ e=>by cases e⟩;injection e with e
      subst e;refine⟨by rw[rF, <- hb], ?_⟩;rw[aj];generalize (mu K).code _=FF;generalize cs.map aX=M at *
      clear hl' hb;cases c with
      |atom ck cn vs=>
        have hd:aX (.atom ck cn vs)=NB ck cn vs:=by rw[aX]
        rw[hd]at g2;simp only[cX, sH];rw[hcB];have g3:=JP g2;simp[kI, h1, g3, hcl, hp, w1, r1, r2, hz, hlb, hd]
      |gate j5 ks=>
        have hd:aX (.gate j5 ks)=.iface 254 (.agg [iV j5, .lst (Cl ks)]):=by rw[aX]
        rw[hd]at g2;have g3:=JP g2;have hkl:(Cl ks).length=ks.length:=by rw[fV];simp
        have hks:ks.length<=Cd.sizes ks:=cZ ks;have hsz:(Cd.gate j5 ks).size=Cd.sizes ks+1:=rfl;have r3:(b.length+ks.length)*16<=room:=by unfold room;omega
        have r4:b.length+ks.length<=room:=by unfold room;omega
        by_cases c1:((w&&decide (j5=(ks.length:Int))) ||(!w&&decide (k=1)&&decide (j5=1)))=true
        · simp only[cX, if_pos c1]
          have ke:ks≠[]:=hgc j5 ks rfl;rw[PS b ks ke, hcB];cases w with
          |true=>
            have n1:j5=(ks.length:Int):=by simpa using c1
            subst n1;simp[kI, h1, g3, hcl, hp, w1, r3, r4, hz, hlb, fV]
          |false=>
            have n1:k=1∧j5=1:=by simpa using c1
            obtain⟨rfl, rfl⟩:=n1;simp[kI, h1, g3, hcl, hp, w1, r3, r4, hz, hlb, fV]
        · simp only[cX, if_neg c1, sH]
          rw[hcB];cases w with
          |true=>
            have n1:(j5=(ks.length:Int))=False:=by simpa using c1
            simp[kI, h1, g3, hcl, hp, w1, r1, r2, hz, hlb, hkl, hd, n1]
          |false=>
            have n1:k=1->¬ j5=1:=by simpa using c1
            by_cases k1:k=1
            · have n2:(j5=1)=False:=by simp[n1 k1]
              have k1':(k=1)=True:=by simp[k1]
              simp[kI, h1, g3, hcl, hp, w1, r1, r2, hz, hlb, hd, n2, k1']
            · simp[kI, h1, g3, hcl, hp, w1, r1, r2, hz, hlb, hd, k1])
    (λb hb=>by
      rw[aj];generalize (mu K).code _=FF;simp[kI]) [] rfl
  have e:∀(l b:List Cd), iter (λ(b:List Cd) (c:Cd)=>(.inl (b++cX w k c):List Cd ⊕ Unit)) b l=.inl (b++bw w k l):=λl=>by
    induction l with
    |nil=>intro b;simp[iter, bw]
    |cons c l ih=>intro b;simp[iter, bw, ih]
  rw[e]at key;simpa[cdB]using key.2
theorem NL:GX.body=.code (.seq um (.seq uo (.seq uq (.seq uu (.seq xA (.seq BS (.seq Fv (.seq Fw (.seq Fx (.seq Fy (.seq AK AL))))))))))):=rfl
abbrev zr7:AV:=.agg [iV 0,iV 0,.str [],.str [],.ay,iV 0,.ay]
def rcB:List Cd->Blk
 | []=>.arr 0 0 false []
 |c::r=>.arr 185 7 false ((c::r).map bB)
theorem jX(d:List Cd):∃t z,rcB d=.arr t z false (d.map bB)∧(z=0∨t=185∧z=7):=by
 cases d with
 |nil=>exact⟨0,0,rfl,.inl rfl⟩
 |cons s r=>exact⟨185,7,rfl,.inr ⟨rfl,rfl⟩⟩
theorem wB(d:List Cd)(c:Cd):rcB (d++[c])=.arr 185 7 false ((d++[c]).map bB):=by
 cases d<;>rfl
theorem PT(d e:List Cd)(he:e≠[]):rcB (d++e)=.arr 185 7 false ((d++e).map bB):=by
 cases d with
 |nil=>cases e with
  |nil=>exact absurd rfl he
  |cons c r=>rfl
 |cons x r=>rfl
theorem xR(j5:Int)(ks:List Cd):bB (.gate j5 ks)=.agg [iV 5,iV j5,.str [],.str [],.ay,iV 0,.lst (ks.map bB)]:=by simp[rK,rN,rS,wI]
theorem WX(c:Cd):(c.isT=true)=(rK c=0):=by cases c<;>simp[Cd.isT,rK]
theorem WY(c:Cd):(c.isF=true)=(rK c=1):=by cases c<;>simp[Cd.isF,rK]
theorem NM(k:Int)(hk:-1000000<=k∧k<=1000000)(cs:List Cd)(hc:cs.length<=1000000)(nl:Bool)(h:Heap) :
  ∃j3,(mu K).code (.af 2 [0,1,4,5,6] oX) ⟨[(0,iV k),(1,lv nl (cs.map bB)),(4,.ptr (h.length,0) 0),(5,.own (h.length,1) 0),(6,iV 0)],[.box 185 false zr7,.arr 0 0 false []]::h⟩ =
   some (.exit 0,⟨j3,[.box 185 false zr7,rcB (rest cs)]::h⟩)∧get j3 0=iV (k-gW cs)∧get j3 4=.ptr (h.length,0) 0∧get j3 5=.own (h.length,1) (rest cs).length:=by
 have key:=aB (K:=K) (n:=2) (live:=[0,1,4,5,6]) (a:=oX) kR
  (λj4 b=>⟨[(0,iV b.1),(1,lv nl (cs.map bB)),(4,.ptr (h.length,0) 0),(5,.own (h.length,1) b.2.length),(6,iV (j4.length:Int))],[.box 185 false zr7,rcB b.2]::h⟩)
  (λj4 b=>k-j4.length<=b.1∧b.1<=k∧b.2.length<=j4.length)
  (λb o=>∃j3,o=some (.exit 0,⟨j3,[.box 185 false zr7,rcB b.2]::h⟩)∧get j3 0=iV b.1∧get j3 4=.ptr (h.length,0) 0∧get j3 5=.own (h.length,1) b.2.length)
  (λ_ _=>False) cs
  (λj4 c r b hl' hb=>by
   obtain⟨hb1,hb2,hb3⟩:=hb;obtain⟨h1,h2,w1⟩:=aA hl' (by omega);have hix:=λ(kk:IntKind)=>nI (sz:=7) (nl:=nl) (l:=cs.map bB) (k:=kk) (j:=(j4.length:Int)) (v:=bB c) (by omega) (by simp[h2]) (by simp[AV.cells])
   have hcl:(cs.map bB).length=cs.length:=by simp
   have w2:IntKind.i64.wrap (b.1-1)=b.1-1:=wrap64 (by omega) (by omega);have r1:(b.2.length+1)*104<=room:=by unfold room;omega
   have r2:b.2.length+1<=room:=by unfold room;omega
   obtain⟨t0,z0,hcB,hz⟩:=jX b.2;have hz:(z0=0∨t0=185∧z0=7)=True:=by simp[hz]
   have hlb:(b.2.map bB).length=b.2.length:=by simp
   have qc:=fX c;refine⟨λb' e=>?_,λ_ e=>by simp only[kR]at e;split at e<;>(try split at e)<;>cases e⟩;rw[aj];generalize (mu K).code _=FF;generalize cs.map bB=M at *
   clear hl';simp only[kR,WX,WY]at e;by_cases c0:rK c=0
   ·rw[if_pos c0]at e;injection e with e
    subst e;refine⟨⟨by simp;omega,by simp only;omega,by simp;omega⟩,?_⟩;rw[hcB];simp[oX,h1,hcl,hix,w1,w2,c0]
   by_cases c1:rK c=1
   ·rw[if_neg c0,if_pos c1]at e;injection e with e
    subst e;refine⟨⟨by simp;omega,hb2,by simp;omega⟩,?_⟩;rw[hcB];simp[oX,h1,hcl,hix,w1,c1]
   ·rw[if_neg c0,if_neg c1]at e;injection e with e
    subst e;refine⟨⟨by simp;omega,hb2,by simp;omega⟩,?_⟩;simp only[wB];rw[hcB];simp[oX,h1,hcl,hix,w1,c0,c1,r1,r2,hz,hlb])
  (λb hb=>by
   have hcl:(cs.map bB).length=cs.length:=by simp
   rw[aj];generalize (mu K).code _=FF;generalize cs.map bB=M at *
   simp[oX,hcl]) (k,[]) ⟨by simp,by simp,by simp⟩
 rw[rD]at key;exact key.2
def GNr(c:Cd):Prop:=(∀j5 ks,c=.gate j5 ks->ks≠[])∧∀k n vs,c=.atom k n vs->k≠5
theorem Eo(k:Int)(w:Bool)(cs:List Cd)(hg:∀c∈cs,GNr c)(hs:Cd.sizes cs<=1000000)(h:Heap) :
  ∃j3,(mu K).code (.af 3 [0,4,5,7,8,9] kJ) ⟨[(0,iV k),(4,.ptr (h.length,0) 0),(5,.own (h.length,1) cs.length),(7,.bool w),(8,.own (h.length,2) 0),(9,iV 0)],[.box 185 false zr7,.arr 185 7 false (cs.map bB),.arr 0 0 false []]::h⟩ =
   some (.exit 3,⟨j3,[.box 185 false zr7,.arr 185 7 false (cs.map bB),rcB (bw w k cs)]::h⟩)∧get j3 0=iV k∧get j3 4=.ptr (h.length,0) 0∧get j3 7=.bool w∧get j3 8=.own (h.length,2) (bw w k cs).length:=by
 have hcs:=cZ cs;have key:=aB (K:=K) (n:=3) (live:=[0,4,5,7,8,9]) (a:=kJ) (ρ:=Unit) (λ(b:List Cd) (c:Cd)=>.inl (b++cX w k c))
  (λj4 b=>⟨[(0,iV k),(4,.ptr (h.length,0) 0),(5,.own (h.length,1) cs.length),(7,.bool w),(8,.own (h.length,2) b.length),(9,iV (j4.length:Int))],[.box 185 false zr7,.arr 185 7 false (cs.map bB),rcB b]::h⟩)
  (λj4 b=>b=bw w k j4)
  (λb o=>∃j3,o=some (.exit 3,⟨j3,[.box 185 false zr7,.arr 185 7 false (cs.map bB),rcB b]::h⟩)∧get j3 0=iV k∧get j3 4=.ptr (h.length,0) 0∧get j3 7=.bool w∧get j3 8=.own (h.length,2) b.length)
  (λ_ _=>False) cs
  (λj4 c r b hl' hb=>by
   obtain⟨h1,h2,w1⟩:=aA hl' (by omega);have hp:j4.length<cs.length:=(aft.1 h2).1;have hgc:=hg c (afB h2);have hls:Cd.sizes cs=Cd.sizes j4+(c.size+Cd.sizes r):=by rw[hl',eH];rfl
   have hbl:b.length<=Cd.sizes j4:=by rw[hb];exact merge_le w k j4
   have g2:(cs.map bB)[j4.length]?=some (bB c):=by simp[h2]
   have g3:=JP g2;have hcl:(cs.map bB).length=cs.length:=by simp
   have h1c:1<=c.size:=by cases c<;>simp[Cd.size]
   have r1:(b.length+1)*104<=room:=by unfold room;omega
   have r2:b.length+1<=room:=by unfold room at *;omega
   obtain⟨t0,z0,hcB,hz⟩:=jX b;have hz:(z0=0∨t0=185∧z0=7)=True:=by simp[hz]
   have hlb:(b.map bB).length=b.length:=by simp
   have qc:=fX c;have TC:=λh=>f199 c h
   have TD:=λh=>f200 c h
   refine⟨λb' e=>?_,λ_ e=>by cases e⟩;injection e with e
   subst e;refine⟨by rw[rF,<-hb],?_⟩;rw[aj];generalize (mu K).code _=FF;generalize cs.map bB=M at *
   clear hl' hb;have k1c:(k=1)=True∨(k=1)=False:=by by_cases e:k=1<;>simp[e]
   cases c with
   |atom ck cn vs=>
    have h5:(rK (.atom ck cn vs)=5)=False:=eq_false (by simpa[rK]using hgc.2 ck cn vs rfl);have e1:cX w k (.atom ck cn vs)=[.atom ck cn vs]:=rfl;rw[e1];simp only[wB];rw[hcB];generalize Cd.atom ck cn vs=c at *
    rcases k1c with k1c|k1c<;>cases w<;>simp[kJ,KL,aa,h1,g3,hcl,hp,w1,r1,r2,hz,hlb,TC,TD,h5,k1c]
   |gate j5 ks=>
    have hkl:(ks.map bB).length=ks.length:=by simp
    have hks:ks.length<=Cd.sizes ks:=cZ ks;have hsz:(Cd.gate j5 ks).size=Cd.sizes ks+1:=rfl;have r3:(b.length+ks.length)*104<=room:=by unfold room;omega
    have r4:b.length+ks.length<=room:=by unfold room;omega
    have hd:bB (.gate j5 ks)=.agg [iV 5,iV j5,.str [],.str [],.ay,iV 0,.lst (ks.map bB)]:=xR j5 ks;have e5:rK (.gate j5 ks)=5:=rfl;have eN:rN (.gate j5 ks)=j5:=rfl;have eL:rL (.gate j5 ks)=ks.length:=rfl;have qk:AV.dh (ks.map bB) (ks.map bB)=true:=by rw[<-wI];exact FQ ks
    simp only[hd,e5,eN,eL]at g2 g3 TC TD;by_cases c1:((w&&decide (j5=(ks.length:Int))) ||(!w&&decide (k=1)&&decide (j5=1)))=true
    ·simp only[cX,if_pos c1];have ke:ks≠[]:=hgc.1 j5 ks rfl;rw[PT b ks ke,hcB];cases w with
     |true=>
      have n1:j5=(ks.length:Int):=by simpa using c1
      subst n1;simp[kJ,KL,aa,h1,g3,hcl,hp,w1,r3,r4,hz,hlb,hkl,TC]
     |false=>
      have n1:k=1∧j5=1:=by simpa using c1
      obtain⟨rfl,rfl⟩:=n1;simp[kJ,KL,aa,h1,g3,hcl,hp,w1,r3,r4,hz,hlb,hkl,TD]
    ·simp only[cX,if_neg c1,wB];rw[hcB];cases w with
     |true=>
      have n1:(j5=(ks.length:Int))=False:=by simpa using c1
      simp[kJ,KL,aa,h1,g3,hcl,hp,w1,r1,r2,hz,hlb,TC,hd,n1]
     |false=>
      have n1:k=1->¬ j5=1:=by simpa using c1
      by_cases k1:k=1
      ·have n2:(j5=1)=False:=by simp[n1 k1]
       have k1':(k=1)=True:=by simp[k1]
       simp[kJ,KL,aa,h1,g3,hcl,hp,w1,r1,r2,hz,hlb,TD,hd,n2,k1']
      ·simp[kJ,h1,g3,hcl,hp,w1,r1,r2,hz,hlb,hd,k1])
  (λb hb=>by
   rw[aj];generalize (mu K).code _=FF;simp[kJ]) [] rfl
 have e:∀(l b:List Cd),iter (λ(b:List Cd) (c:Cd)=>(.inl (b++cX w k c):List Cd ⊕ Unit)) b l=.inl (b++bw w k l):=λl=>by
  induction l with
  |nil=>intro b;simp[iter,bw]
  |cons c l ih=>intro b;simp[iter,bw,ih]
 rw[e]at key;simpa[rcB]using key.2
theorem f150(k:Int)(hk:-1000000<=k∧k<=1000000)(cs:List Cd)(hg:∀c∈cs,GNr c)(hs:Cd.sizes cs<=1000000)(nl:Bool)(h:Heap) :
  (mu K).fn 150 [iV k,lv nl (cs.map bB)] h=some (.val (bB (thr k cs)) h):=by
 have hcl:=cZ cs;obtain⟨j3,k0,g0,g4,g5⟩:=NM k hk cs (by omega) nl h;have k81:=λb h=>f145 b h
 rw[aC (KX _ _ _) ZF NL (by simp[GX])];unfold thr;generalize hm:k-gW cs=m at *
 generalize cs.map bB=M0 at *
 by_cases c1:m<=0
 ·rw[if_pos c1];simp[um,uo,uq,uu,GX,KL,aa,k0,g0,g4,c1,k81]
 rw[if_neg c1];by_cases c2:((rest cs).length:Int)<m
 ·rw[if_pos c2];simp[um,uo,uq,uu,xA,GX,KL,aa,k0,g0,g4,g5,c1,c2,k81]
 rw[if_neg c2];have hrg:∀c∈rest cs,GNr c:=λc hc=>hg c (rA hc).1
 have hrs:Cd.sizes (rest cs)<=1000000:=af3 (pK cs) hs
 match hr:rest cs with
 | []=>rw[hr]at c2;simp at c2;omega
 | [c]=>
  rw[hr]at k0 g5 c2;have c2':((1:Int)<m)=False:=by simp at c2⊢;omega
  have qc:=fX c;simp only[Io,iO]at g5;simp[um,uo,uq,uu,xA,BS,GX,k0,g0,g4,g5,c1,c2',rcB]
 |c::d::r=>
  simp only;rw[<-hr];have hlen:2<=(rest cs).length:=by rw[hr];simp
  have hB:rcB (rest cs)=.arr 185 7 false ((rest cs).map bB):=by rw[hr];rfl
  generalize rest cs=R at *
  clear hr;rw[hB]at k0;have l1:((R.length:Int)=1)=False:=by simp;omega
  have hml:=merge_le true m R;have aem:=merge_le false m R;by_cases c3:m=(R.length:Int)
  ·rw[if_pos c3];obtain⟨jA,k1,e0,e4,e7,e8⟩:=Eo m true R hrg hrs h;obtain⟨t0,z0,hcB,hz⟩:=jX (bw true m R);have hz:(z0=0∨t0=185∧z0=7)=True:=by simp[hz]
   rw[hcB]at k1;have hlb:((bw true m R).map bB).length=(bw true m R).length:=by simp
   rw[xR];rw[<-c3]at c2 l1;generalize R.map bB=M at *
   generalize bw true m R=Q at *
   have c1':(m<=0)=False:=by simp;omega
   simp[um,uo,uq,uu,xA,BS,Fv,Fw,Fx,Fy,AK,AL,GX,k0,g0,g4,g5,c1',<-c3,l1,k1,e4,e7,e8,hlb]
  ·rw[if_neg c3];obtain⟨jA,k1,e0,e4,e7,e8⟩:=Eo m false R hrg hrs h;obtain⟨t0,z0,hcB,hz⟩:=jX (bw false m R);have hz:(z0=0∨t0=185∧z0=7)=True:=by simp[hz]
   rw[hcB]at k1;have hlb:((bw false m R).map bB).length=(bw false m R).length:=by simp
   rw[xR];generalize R.map bB=M at *
   generalize bw false m R=Q at *
   simp[um,uo,uq,uu,xA,BS,Fv,Fw,Fx,Fy,AK,AL,GX,k0,g0,g4,g5,c1,c2,c3,l1,k1,e0,e4,e7,e8,hlb]
