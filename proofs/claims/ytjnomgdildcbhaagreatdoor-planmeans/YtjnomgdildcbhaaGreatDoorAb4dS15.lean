/-
  The cost of a plan; plans that are small; the statement on checks and costs.
-/
import Derived.Test.YtjnomgdildcbhaaGreatDoorAb4dS6
import Derived.Test.YtjnomgdildcbhaaGreatDoorAb4dS10
import Derived.Test.YtjnomgdildcbhaaGreatDoorAb4dS1
set_option linter.unusedVariables false
set_option linter.unusedSimpArgs false
set_option linter.unusedSectionVars false
namespace Go.Ab.Pn
open Go.Ab.Pol
set_option maxRecDepth 100000
set_option maxHeartbeats 4000000
structure aPl (p:Pl):Prop where
 sz:SzP p
 pts:∀ x∈p.atoms.l,aPt x
theorem F4{n:Nat}:∀ {l:List Pt},vX n l=0->∀ a∈l,ptE a n=0
 | [],_,a,h=>by cases h
 |b :: l,h,a,ha=>by
  simp only[vX]at h;split at h
  ·rename_i c;exact absurd h c
  ·rename_i c;rcases adY.1 ha with rfl |ha
   ·exact afD.1 c
   ·exact F4 h a ha
/- Small plans. -/
theorem DZ:∀ x:Pc,x.av.beq x.av=true:=λx=>by simp[AV.beq,AV.eG]
theorem D2:∀ x:Pt,x.av.beq x.av=true:=λx=>by simp[AV.beq,AV.eG,ay _ bJ]
theorem M6:∀ x:Gt,x.av.beq x.av=true:=λx=>by simp[AV.beq,AV.eG,ay _ bJ]
end Go.Ab.Pn
/-
  The plan of a policy is valid: the statement PlanValid on the evaluator.
-/
namespace Go.Ab.Pn
open Go.Ab.Pol
set_option maxRecDepth 100000
set_option maxHeartbeats 4000000
theorem RM{a:Pt}{n:Nat}(hn:n<=1000)(h:ptE a n=0):aPt a:=by
 unfold ptE at h;split at h
 ·exact absurd h (by decide)
 rename_i c;split at h
 ·rename_i ho;unfold mO at ho;simp only[ad8,decide_eq_true_eq]at ho;obtain⟨h1,h2⟩:=ho;have key:0<=a.b∧a.b<=1000∧-aU<=a.lo∧a.lo<=aU∧-aU<=a.hi∧a.hi<=aU:=by
   unfold aU at *
   split at h2
   ·simp only[decide_eq_true_eq]at h2;omega
   split at h2
   ·simp only[decide_eq_true_eq]at h2;omega
   split at h2
   ·simp only[decide_eq_true_eq]at h2;omega
   ·simp only[decide_eq_true_eq]at h2;omega
  unfold aU at key;refine⟨?_,?_,?_,?_,?_⟩<;>unfold i64<;>omega
 ·exact absurd h (by decide)
theorem ug{p:Po}{l:List Sc}{t:Tr}(ok:HP p l t)(hF:(aS p l t).isF≠true):(aZ p l t=([],[],none)∧(aS p l t).isT=true)∨(NF p.uses.l l (inR (bS p l t)) (cG (aS p l t))∧aZ p l t=eH (bS p l t) (ak p.uses.l l) (cG (aS p l t))):=by
 have lt:=mQ (aS p l t);by_cases c3:(aS p l t).isT=true
 ·refine .inl ⟨?_,c3⟩;unfold aZ C0;rw[lt.1,if_pos c3]
 ·refine .inr ⟨?_,?_⟩
  ·rcases ok.nf with⟨b,e⟩ |q
   ·exfalso;rw[e]at lt;cases b
    ·exact hF (by rw[<-lt.2];rfl)
    ·exact c3 (by rw[<-lt.1];rfl)
   ·exact q
  ·unfold aZ C0;rw[lt.1,if_neg c3]
theorem LX{p:Po}{l:List Sc}{t:Tr}(g:Pol.Good p t)(ok:HP p l t)(hty:(fB p l t).2=0)(hn:p.nodes.l.length<=40):(bS p l t).length<=40:=by
 have hn':NFp p.uses.l l (sU p t) (aS p l t):=mE g hty (tZ g.isT) false;have h1:=pJ (bS p l t) (bW p t) ok.nodup (N6 (q:=bA p l t) ok.good.isT hn');have h2:=AU p.nodes.l (ints t.pre);have h3:(ints t.pre).length=t.pre.length:=by simp[ints]
 have h4:=g.all;have h5:bW p t=jA p.nodes.l (ints t.pre):=rfl;rw[h5]at h1;omega
theorem Li{p:Po}{l:List Sc}{t:Tr}(ht:chk p=0->Pol.Good p t)(hn:p.nodes.l.length<=40)(h:(gQ p l t).2=0) :
  Ah (gQ p l t).1=0∧aPl (gQ p l t).1∧HP p l t∧(aS p l t).isF≠true∧Pol.Good p t∧Fy p l t ∧
   (gQ p l t).1=⟨⟨false,p.aA.l.map (pcR p.uses.l l)⟩,⟨false,(bS p l t).map (pcR p.uses.l l)⟩,⟨false,(aZ p l t).1⟩,bK (aZ p l t).2.2,⟨false,(aZ p l t).2.1⟩⟩:=by
 unfold gQ at h ⊢;by_cases c1:(iD p l t).2=0
 case neg=>rw[if_pos c1]at h;exact absurd h c1
 rw[if_neg (by simp[c1])]at h ⊢;by_cases c2:(aS p l t).isF=true
 ·rw[if_pos c2]at h;exact absurd h (by decide)
 rw[if_neg c2]at h ⊢;by_cases c3:pz (aZ p l t).1 (aZ p l t).2.1=0
 case neg=>rw[if_pos c3]at h;exact absurd h c3
 rw[if_neg (by simp[c3])];have ok:=FV ht c1;obtain⟨g,hF,hty,_,_⟩:=A3 ht c1;have hsz:(aS p l t).size<=380:=by
  have:=norm_le g l;omega
 have hr:=LX g ok hty hn;have hfd:=jS ok.ready p.uses.l;have parts:vX (bS p l t).length (aZ p l t).1=0∧Cg (bS p l t).length (aZ p l t).2.1=0∧fmE (mo (aZ p l t).2.2) (aZ p l t).1.length=0:=by
  rcases ug ok c2 with⟨e,_⟩ |⟨hnf,e⟩
  ·rw[e];exact⟨rfl,rfl,A5⟩
  ·rw[e]at c3 ⊢;exact LY hfd _ hnf (by rw[jT];omega) c3
 obtain⟨p1,p2,p3⟩:=parts;have hc:=N7 (na:=false) (nc:=false) (ns:=false) (nd:=false) ok.ready ok.aA ok.nodup (by omega) ok.found c3 p1 p2 p3;have hlen:(aZ p l t).1.length<=256∧(aZ p l t).2.1.length<=64:=by
  unfold pz at c3;split at c3
  ·exact absurd c3 (by decide)
  ·omega
 have hg:okG (bK (aZ p l t).2.2).l:=by
  rcases ug ok c2 with⟨e,_⟩ |⟨hnf,e⟩
  ·rw[e];exact⟨by simp[bK],λg hg=>by simp[bK]at hg⟩
  ·cases ef:(aZ p l t).2.2 with
   |none=>exact⟨by simp[bK],λg hg=>by simp[bK]at hg⟩
   |some f=>
    rw[ef]at p3;have hfs:f.size<=512:=by
     unfold fmE at p3;split at p3
     ·exact absurd p3 (by decide)
     ·simp only[mo,gD]at *;omega
    exact N8 hfs
 refine⟨hc,⟨⟨by simp;have:=ok.HJ;omega,by simp;omega,by simp only;omega,by simp only;omega,hg⟩,λa ha=>RM (by omega) (F4 p1 a ha)⟩,ok,c2,g,hF,rfl⟩
theorem Lh{p:Po}{l:List Sc}{t:Tr}(h:(gQ p l t).2≠0):(gQ p l t).1=zPl:=by
 unfold gQ at h ⊢;split
 ·rfl
 rename_i c1;rw[if_neg c1]at h;split
 ·rfl
 rename_i c2;rw[if_neg c2]at h;split
 ·rfl
 rename_i c3;rw[if_neg c3]at h;exact absurd rfl h
end Go.Ab.Pn
/-
  Two plans of the same lists are the same.
-/
namespace Go.Ab.Pn
open Go.Ab.Pol
set_option maxRecDepth 100000
set_option maxHeartbeats 4000000
structure adR (a b:Pl):Prop where
 iN:a.iN.l=b.iN.l
 comm:a.comm.l=b.comm.l
 atoms:a.atoms.l=b.atoms.l
 gates:a.gates.l=b.gates.l
 sq:a.sq.l=b.sq.l
end Go.Ab.Pn
/-
  S9 gates hold: program and reference.
-/
namespace Go.Ab.Pn
open Go.Ab.Pol
set_option maxRecDepth 100000
set_option maxHeartbeats 4000000
def U4(gs:List Gt)(n:Nat):Prop:=∀ (j:Nat) (g:Gt),gs[j]?=some g->(g.kids.l=[]->0<=g.leaf∧g.leaf<(n:Int))∧∀ k∈g.kids.l,(j:Int)<k∧k<(gs.length:Int)
theorem N9(gs:List Gt):∀ (f i c n' c':Nat),shp gs f i c=some (n',c')->i<n'∧c<=c'∧∀ j,i<=j->j<n'->∃ g,gs[j]?=some g∧(g.kids.l=[]->(c:Int)<=g.leaf∧g.leaf<(c':Int))∧∀ k∈g.kids.l,(j:Int)<k∧k<(n':Int)
 | 0,i,c,n',c',h=>by simp[shp]at h
 |f+1,i,c,n',c',h=>by
  have hL:∀ (ks:List Int) (n c n' c':Nat),uz (shp gs f) ks n c=some (n',c')->n<=n'∧c<=c'∧(∀ k∈ks,(n:Int)<=k∧k<(n':Int)) ∧
    ∀ j,n<=j->j<n'->∃ g,gs[j]?=some g∧(g.kids.l=[]->(c:Int)<=g.leaf∧g.leaf<(c':Int))∧∀ k∈g.kids.l,(j:Int)<k∧k<(n':Int):=λks=>by
   induction ks with
   |nil=>intro n c n' c' h;simp[uz]at h;exact⟨by omega,by omega,by simp,λj h1 h2=>by omega⟩
   |cons k ks ih=>
    intro n c n' c' h;simp only[uz]at h;split at h
    ·rename_i hk;cases e:shp gs f n c with
     |none=>rw[e]at h;cases h
     |some r=>
      obtain⟨n1,c1⟩:=r;rw[e]at h;obtain⟨a1,a2,a3⟩:=N9 gs f n c n1 c1 e;obtain⟨b1,b2,b3,b4⟩:=ih n1 c1 n' c' h;refine⟨by omega,by omega,λx hx=>?_,λj h1 h2=>?_⟩
      ·rcases adY.1 hx with rfl |hx
       ·omega
       ·have:=b3 x hx;omega
      ·by_cases hj:j<n1
       ·obtain⟨g,g1,g2,g3⟩:=a3 j h1 hj;exact⟨g,g1,λq=>by have:=g2 q;omega,λx hx=>by have:=g3 x hx;omega⟩
       ·obtain⟨g,g1,g2,g3⟩:=b4 j (by omega) h2;exact⟨g,g1,λq=>by have:=g2 q;omega,g3⟩
    ·cases h
  simp only[shp]at h;cases hg:gs[i]? with
  |none=>rw[hg]at h;cases h
  |some g=>
   rw[hg]at h;simp only at h;split at h
   ·rename_i hk;split at h
    ·rename_i hc;simp at h;obtain⟨rfl,rfl⟩:=h;refine⟨by omega,by omega,λj h1 h2=>?_⟩;have:j=i:=by omega
     subst this;exact⟨g,hg,λ_=>by omega,λk hk'=>by rw[hk]at hk';cases hk'⟩
    ·cases h
   rename_i hk;split at h
   ·cases h
   ·obtain⟨b1,b2,b3,b4⟩:=hL _ _ _ _ _ h;refine⟨by omega,b2,λj h1 h2=>?_⟩;by_cases hj:j=i
    ·subst hj;exact⟨g,hg,λq=>absurd q hk,λk hk'=>by have:=b3 k hk';omega⟩
    ·exact b4 j (by omega) h2
theorem aaE{gs:List Gt}{n:Nat}(h:fmE gs n=0):U4 gs n:=by
 unfold fmE at h;split at h
 ·exact absurd h (by decide)
 cases e:vW gs with
 |none=>simp[e]at h
 |some c=>
  rw[e]at h;simp only at h;have hc:c=n:=by
   by_cases q:c=n
   ·exact q
   ·rw[if_neg q]at h;exact absurd h (by decide)
  subst hc;intro j g hj;have hlt:=(adW.1 hj).1;unfold vW at e;split at e
  ·rename_i q;subst q;simp at hj
  ·cases e2:shp gs gs.length 0 0 with
   |none=>rw[e2]at e;cases e
   |some r=>
    obtain⟨n',c'⟩:=r;rw[e2]at e;simp only at e;split at e
    ·rename_i q;injection e with e
     subst e;obtain⟨_,_,k⟩:=N9 gs _ _ _ _ _ e2;obtain⟨g',g1,g2,g3⟩:=k j (by omega) (by omega);rw[hj]at g1;injection g1 with g1
     subst g1;exact⟨λz=>by have:=g2 z;omega,λx hx=>by have:=g3 x hx;omega⟩
    ·cases e
abbrev TrF(gs:Sl Gt)(out:List Bool)(h:Heap):Heap:=[.box 34 false (fAV gs),.arr 4 1 false (out.map .bool)] :: h
abbrev lfF(l:Sl Bool)(k:Int):Bool:=l.l.getD k.toNat false
theorem F5(out:List Bool):∀ (ks:List Int) (c:Nat),iter (λ(c:Nat) (k:Int)=>(.inl (if out.getD k.toNat false then c+1 else c):Nat ⊕ Unit)) c ks=.inl (c+Ib out ks)
 | [],c=>rfl
 |k :: ks,c=>by
  simp only[iter,F5 out ks,Ib,afl];cases out.getD k.toNat false<;>simp<;>omega
theorem RO{out:List Bool}{k:Int}(h0:0<=k)(h1:k<(out.length:Int)):(out.map AV.bool)[k.toNat]?=some (.bool (out.getD k.toNat false))∧∀ hh,(out.map AV.bool)[k.toNat]'hh=.bool (out.getD k.toNat false):=by
 have e:(out.map AV.bool)[k.toNat]?=some (.bool (out.getD k.toNat false)):=by
  rw[aeh,iO,aea (by omega)];rfl
 exact⟨e,λhh=>by
  have:=aea hh;rw[e]at this;exact (Option.some.inj this).symm⟩
theorem RP(gs:Sl Gt)(l:Sl Bool)(out:List Bool)(n:Nat)(x:Gt)(hx:x.kids.l.length<=1000)(ho:out.length=gs.l.length)(hk:∀ k∈x.kids.l,0<=k∧k<(gs.l.length:Int))(h:Heap) :
  ∃ env,(mu K).code (.af 3 [1,2,5,6,7,8,45,46,47] nE) ⟨[(1,l.avS .bool),(2,.ptr (h.length,0) 0),(5,.own (h.length,1) gs.l.length),(6,iV (n:Int)),(7,.ptr (h.length,2) 0),(8,iV 0),(45,x.kids.avS iV),(46,iV (x.kids.l.length:Int)),(47,iV 0)],[.box 34 false (fAV gs),.arr 4 1 false (out.map .bool),.box 140 false x.av] :: h⟩=some (.exit 2,⟨env,[.box 34 false (fAV gs),.arr 4 1 false (out.map .bool),.box 140 false x.av] :: h⟩)∧get env 1=l.avS .bool∧get env 2=.ptr (h.length,0) 0 ∧
   get env 5=.own (h.length,1) gs.l.length∧get env 6=iV (n:Int)∧get env 7=.ptr (h.length,2) 0∧get env 8=iV (Ib out x.kids.l:Int):=by
 have key:=aD (K:=K) (n:=3) (live:=[1,2,5,6,7,8,45,46,47]) (a:=nE) (λ(c:Nat) (k:Int)=>(.inl (if out.getD k.toNat false then c+1 else c):Nat ⊕ Unit))
  (λpre c=>⟨[(1,l.avS .bool),(2,.ptr (h.length,0) 0),(5,.own (h.length,1) gs.l.length),(6,iV (n:Int)),(7,.ptr (h.length,2) 0),(8,iV (c:Int)),(45,x.kids.avS iV),(46,iV (x.kids.l.length:Int)),(47,iV (pre.length:Int))],[.box 34 false (fAV gs),.arr 4 1 false (out.map .bool),.box 140 false x.av] :: h⟩) (λpre c=>c<=pre.length)
  (λc o=>∃ env,o=some (.exit 2,⟨env,[.box 34 false (fAV gs),.arr 4 1 false (out.map .bool),.box 140 false x.av] :: h⟩)∧get env 1=l.avS .bool∧get env 2=.ptr (h.length,0) 0 ∧
   get env 5=.own (h.length,1) gs.l.length∧get env 6=iV (n:Int)∧get env 7=.ptr (h.length,2) 0∧get env 8=iV (c:Int)) (λ_ _=>False) x.kids.l
  (λpre k r c hl hI=>by
   obtain⟨h1,h2,w1⟩:=aH hl (by omega);have hix:=λ(q:IntKind)=>aG (av:=iV) (sz:=1) (s:=x.kids) (k:=q) (j:=(pre.length:Int)) (x:=k) (by omega) (by simpa using h2) rfl
   obtain⟨k0,k1⟩:=hk k (by rw[hl];simp);obtain⟨b1,b2⟩:=RO (out:=out) k0 (by omega);have hlen:pre.length<x.kids.l.length:=by rw[hl];simp
   have v1:IntKind.i64.wrap ((c:Int)+1)=(c:Int)+1:=wrap64 (by omega) (by omega);rw[au];generalize (mu K).code (.af 3 [1,2,5,6,7,8,45,46,47] nE)=F;clear hl;refine⟨λc' e=>?_,λr e=>by simp at e⟩;simp only[Sum.inl.injEq]at e;subst e;refine⟨by simp only[ad9,ad1,adZ];split<;>omega,?_⟩;cases hb:out.getD k.toNat false
   ·rw[hb]at b1 b2;simp[nE,KL,aa,h1,hix,w1,k0,k1,b1,b2,ho]
   ·rw[hb]at b1 b2;simp[nE,KL,aa,h1,hix,w1,k0,k1,b1,b2,ho,v1])
  (λc _=>by
   rw[au];generalize (mu K).code (.af 3 [1,2,5,6,7,8,45,46,47] nE)=F;simp[nE]) 0 (afg _)
 rw[F5]at key;simp only[adZ,ad5,ad7]at key;exact key.2
theorem F6(gs:Sl Gt)(hg:okG gs.l)(l:Sl Bool)(ok:U4 gs.l l.l.length)(h:Heap):∀ (n:Nat) (out:List Bool),n<=gs.l.length->out.length=gs.l.length ->
  ∃ env,(mu K).code (.af 2 [1,2,5,6] lT) ⟨[(1,l.avS .bool),(2,.ptr (h.length,0) 0),(5,.own (h.length,1) gs.l.length),(6,iV ((n:Int)-1))],TrF gs out h⟩ =
   some (.exit 0,⟨env,TrF gs (oL (lfF l) gs.l n out) h⟩)∧get env 5=.own (h.length,1) gs.l.length
 | 0,out,hn,ho=>by
  rw[au];generalize (mu K).code (.af 2 [1,2,5,6] lT)=F;simp[lT,oL]
 |n+1,out,hn,ho=>by
  obtain⟨x,hx⟩:∃ x,gs.l[n]?=some x:=⟨_,aea (by omega)⟩
  obtain⟨q1,q2⟩:=ok n x hx;have hkl:=hg.2 x (aee hx);have hgl:=hg.1;have ih:=F6 gs hg l ok h n (out.set n (uE out (lfF l) x)) (by omega) (by simpa using ho);obtain⟨env,e1,e2⟩:=ih;have et:oL (lfF l) gs.l (n+1) out=oL (lfF l) gs.l n (out.set n (uE out (lfF l) x)):=by simp[oL,hx]
  refine⟨env,?_,e2⟩;rw[et,<-e1];have hia:=λ(q:IntKind)=>aG (av:=Gt.av) (sz:=3) (s:=gs) (k:=q) (j:=(n:Int)) (x:=x) (by omega) (by simpa using hx) rfl
  have en:(((n+1:Nat):Int)-1)=(n:Int):=by omega
  rw[en];have w1:IntKind.i64.wrap ((n:Int)-1)=(n:Int)-1:=wrap64 (by omega) (by omega);have n0:(0:Int)<=(n:Int):=by omega
  have n1:(n:Int)<(gs.l.length:Int):=by omega
  have hn1:n<gs.l.length:=by omega
  have ho2:n<out.length:=by omega
  have hm:∀ b:Bool,(out.map AV.bool).set n (.bool b)=(out.set n b).map .bool:=λb=>by rw[List.map_set]
  have kin:=RP gs l out n x hkl ho (λk hk=>by have:=q2 k hk;omega) h;rw[au];generalize (mu K).code (.af 2 [1,2,5,6] lT)=F;unfold uE;by_cases hk:x.kids.l=[]
  ·rw[if_pos hk];obtain⟨l0,l1⟩:=q1 hk;have hil:=λ(q:IntKind)=>aG (av:=AV.bool) (sz:=1) (s:=l) (k:=q) (j:=x.leaf) (x:=l.l.getD x.leaf.toNat false) l0 (by rw[iO,aea (by omega)];rfl) rfl
   have U5:x.kids.l.length=0:=by simp[hk]
   simp[lT,KL,aa,n0,n1,hn1,ho,ho2,hia,hk,U5,hil,w1,TrF]
  ·rw[if_neg hk];have U5:(x.kids.l.length=0)=False:=by simp[hk]
   have hk':(x.kids.l=[])=False:=by simp[hk]
   obtain⟨env',k1,g1,g2,g5,g6,g7,g8⟩:=kin;simp[lT,KL,aa,n0,n1,hn1,ho,ho2,hia,hk',U5,w1,TrF,k1,g1,g2,g5,g6,g7,g8]
end Go.Ab.Pn
/-
  The truth of a formula: program and reference.
-/
namespace Go.Ab.Pn
open Go.Ab.Pol
set_option maxRecDepth 100000
set_option maxHeartbeats 4000000
def Ff(gs:Sl Gt)(l:Sl Bool):List Bool:=oL (lfF l) gs.l gs.l.length (List.replicate gs.l.length false)
theorem pQ{lf:Int->Bool}{gs:List Gt}:∀ (n:Nat) (out:List Bool),(oL lf gs n out).length=out.length
 | 0,out=>rfl
 |n+1,out=>by
  simp only[oL];split
  ·rw[pQ n];simp
  ·rw[pQ n];simp
theorem Fv(gs:Sl Gt)(l:Sl Bool):(Ff gs l).length=gs.l.length:=by
 unfold Ff;rw[pQ];simp
theorem Oa(n:Nat)(a b c:AV)(H:Heap):∃ env,(mu K).code (.af n [1,2,5,6] lT) ⟨[(1,a),(2,b),(5,c),(6,iV (-1))],H⟩=some (.exit 0,⟨env,H⟩)∧get env 5=c:=by
 rw[au];generalize (mu K).code (.af n [1,2,5,6] lT)=F;simp[lT]
theorem f130(gs:Sl Gt)(hg:okG gs.l)(l:Sl Bool)(ok:U4 gs.l l.l.length)(h:Heap):(mu K).fn 130 [fAV gs,l.avS .bool] h=some (.val (if gs.l=[] then .aj else .lst ((Ff gs l).map .bool)) h):=by
 obtain⟨env,e1,e2⟩:=F6 gs hg l ok h gs.l.length (List.replicate gs.l.length false) (by omega) (by simp);have hgl:=hg.1;have w1:IntKind.i64.wrap ((gs.l.length:Int)-1)=(gs.l.length:Int)-1:=wrap64 (by omega) (by omega);rw[aB (KX _ _ _) YZ rfl (by simp[Qw])];have ea:oL (lfF l) gs.l gs.l.length (List.replicate gs.l.length false)=Ff gs l:=rfl;have el:=Fv gs l;rw[ea]at e1;simp only[TrF,List.map_replicate]at e1;by_cases c:gs.l=[]
 ·have c':gs.l.length=0:=by simp[c]
  obtain⟨env',d1,d2⟩:=Oa 1 (l.avS .bool) (.ptr (h.length,0) 0) .aj ([.box 34 false (fAV gs)] :: h);have w0:IntKind.i64.wrap (-1)=-1:=wrap64 (by omega) (by omega);simp[Qw,KL,aa,c,c',w0,d1,d2]
 ·have c':0<gs.l.length:=by
   cases hh:gs.l with
   |nil=>exact absurd hh c
   |cons _ _=>simp
  have r1:gs.l.length*1<=room:=by unfold room;omega
  have r2:gs.l.length<=room:=by unfold room;omega
  simp[Qw,KL,aa,c,c',w1,e1,e2,TrF,r1,r2,el,AV.aJ,AV.bQ]
theorem f74(gs:Sl Gt)(hg:okG gs.l)(l:Sl Bool)(h:Heap):(mu K).fn 74 [fAV gs,l.avS .bool] h =
  some (.val (.tup [if fmE gs.l l.l.length=0∧gs.l≠[] then .lst ((Ff gs l).map .bool) else .aj,iV (fmE gs.l l.l.length)]) h):=by
 have k67:=f67 gs hg l.l.length;rw[aB (KX _ _ _) acP rfl (by simp[c74])];by_cases c:fmE gs.l l.l.length=0
 ·have k:=f130 gs hg l (aaE c);by_cases d:gs.l=[]
  ·simp only[if_pos d]at k;have d':(gs.l=[])=True:=eq_true d;simp[c74,KL,aa,k67,c,d',k]
  ·simp only[if_neg d]at k;have d':(gs.l=[])=False:=eq_false d;simp[c74,KL,aa,k67,c,d',k]
 ·simp[c74,KL,aa,k67,c]
def Je(gs:Sl Gt)(l:Sl Bool):Bool:=decide (gs.l=[]) ||(Ff gs l).getD 0 false
end Go.Ab.Pn
